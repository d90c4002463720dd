/- Plain: the word that the program builds is the least one with an undetected error at a place. Conditions: none. -/
import Derived.Test.YtccoopnoakhedaaFaL
import Derived.Test.YtccoopnoakhedaaFu
import Derived.Test.YtccoopnoakhedaaWrO
import Derived.Test.YtccoopnoakhedaaR8C
import Derived.Test.YtccoopnoakhedaaCount
import Derived.Test.YtccoopnoakhedaaLInts
namespace Go.Proofs.Ytccoopnoakhedaa
set_option maxRecDepth 100000
open Go.RowKit

/-! ### lists in order -/
theorem cmpO_lt : ∀ {a b : List Int}, cmpO a b < 0 ↔ a < b
  | [], [] => by simp [cmpO]
  | [], b :: v => by simp [cmpO]
  | a :: u, [] => by simp [cmpO]
  | a :: u, b :: v => by
    rw [List.cons_lt_cons_iff, cmpO]
    by_cases h1 : a < b
    · rw [if_pos h1]; exact ⟨fun _ => .inl h1, fun _ => by decide⟩
    · rw [if_neg h1]
      by_cases h2 : b < a
      · rw [if_pos h2]
        exact ⟨fun h => by omega, fun h => by rcases h with h | ⟨h, _⟩ <;> omega⟩
      · rw [if_neg h2, cmpO_lt]
        exact ⟨fun h => .inr ⟨by omega, h⟩, fun h => by rcases h with h | ⟨_, h⟩; omega; exact h⟩
theorem lt_app_same : ∀ (u : List Int) {x y : List Int}, x < y ↔ u ++ x < u ++ y
  | [], _, _ => Iff.rfl
  | a :: u, x, y => by
    rw [List.cons_append, List.cons_append, List.cons_lt_cons_iff]
    exact ⟨fun h => .inr ⟨rfl, (lt_app_same u).1 h⟩, fun h => by rcases h with h | ⟨_, h⟩; omega; exact (lt_app_same u).2 h⟩
theorem lt_app : ∀ {u v : List Int} (_ : u < v) (_ : u.length = v.length) (x y : List Int), u ++ x < v ++ y
  | [], [], h, _, _, _ => absurd h (List.not_lt_nil _)
  | a :: u, b :: v, h, hl, x, y => by
    rw [List.cons_append, List.cons_append, List.cons_lt_cons_iff]
    rcases List.cons_lt_cons_iff.1 h with h | ⟨h1, h2⟩
    · exact .inl h
    · exact .inr ⟨h1, lt_app h2 (by simpa using hl) x y⟩
theorem lt_tri : ∀ (u v : List Int), u.length = v.length → u < v ∨ u = v ∨ v < u
  | [], [], _ => .inr (.inl rfl)
  | a :: u, b :: v, h => by
    rw [List.cons_lt_cons_iff, List.cons_lt_cons_iff]
    rcases Int.lt_trichotomy a b with h1 | h1 | h1
    · exact .inl (.inl h1)
    · subst h1
      rcases lt_tri u v (by simpa using h) with h2 | h2 | h2
      · exact .inl (.inr ⟨rfl, h2⟩)
      · exact .inr (.inl (by rw [h2]))
      · exact .inr (.inr (.inr ⟨rfl, h2⟩))
    · exact .inr (.inr (.inl h1))
theorem lt_irr : ∀ (u : List Int), ¬ u < u
  | [], h => absurd h (List.not_lt_nil _)
  | a :: u, h => by
    rcases List.cons_lt_cons_iff.1 h with h | ⟨_, h⟩
    · omega
    · exact lt_irr u h
theorem lt_tr : ∀ {u v w : List Int}, u < v → v < w → u < w
  | _, _, [], _, h => absurd h (List.not_lt_nil _)
  | _, [], _ :: _, h, _ => absurd h (List.not_lt_nil _)
  | [], _ :: _, _ :: _, _, _ => List.nil_lt_cons _ _
  | a :: u, b :: v, c :: w, h1, h2 => by
    rw [List.cons_lt_cons_iff] at h1 h2 ⊢
    rcases h1 with h1 | ⟨h1, h1'⟩ <;> rcases h2 with h2 | ⟨h2, h2'⟩
    · exact .inl (by omega)
    · exact .inl (by omega)
    · exact .inl (by omega)
    · exact .inr ⟨by omega, lt_tr h1' h2'⟩
theorem tup_of {m : Nat} : ∀ (f : List Int), (∀ x ∈ f, 0 ≤ x ∧ x < (m : Int)) → ∃ t, t < m ^ f.length ∧ tupAt m f.length t = f
  | [], _ => ⟨0, by simp, rfl⟩
  | x :: f, h => by
    obtain ⟨t, h1, h2⟩ := tup_of f (fun y hy => h y (List.mem_cons_of_mem _ hy))
    obtain ⟨h3, h4⟩ := h x List.mem_cons_self
    obtain ⟨d, rfl⟩ := Int.eq_ofNat_of_zero_le h3
    have hp : 0 < m ^ f.length := by omega
    refine ⟨d * m ^ f.length + t, ?_, ?_⟩
    · rw [List.length_cons, Nat.pow_succ]
      have h5 : (d + 1) * m ^ f.length ≤ m * m ^ f.length := Nat.mul_le_mul_right _ (by omega)
      rw [Nat.add_mul, Nat.one_mul] at h5
      rw [Nat.mul_comm (m ^ f.length) m]
      omega
    · rw [List.length_cons, tupAt]
      have e1 : (d * m ^ f.length + t) / m ^ f.length = d := by rw [Nat.mul_comm, Nat.mul_add_div hp, Nat.div_eq_of_lt h1]; omega
      have e2 : (d * m ^ f.length + t) % m ^ f.length = t := by rw [Nat.mul_comm, Nat.mul_add_mod, Nat.mod_eq_of_lt h1]
      rw [e1, e2, h2]
theorem tup_lt {m : Nat} : ∀ (n : Nat) {t t' : Nat}, tupAt m n t < tupAt m n t' → t < t'
  | 0, t, t', h => absurd h (List.not_lt_nil _)
  | n + 1, t, t', h => by
    unfold tupAt at h
    rcases Nat.lt_or_ge t t' with h0 | h0
    · exact h0
    · exfalso
      rcases List.cons_lt_cons_iff.1 h with h1 | ⟨h1, h2⟩
      · have : t' / m ^ n ≤ t / m ^ n := Nat.div_le_div_right h0
        omega
      · have h3 := tup_lt n h2
        have h4 : t / m ^ n = t' / m ^ n := by omega
        have h5 := Nat.div_add_mod t (m ^ n)
        have h6 := Nat.div_add_mod t' (m ^ n)
        rw [h4] at h5
        omega

section
variable {D : Ch} {n' k bs : Nat}
/-! ### what can follow -/
theorem both_pos (hbs : D.base = (bs : Int)) : ∀ (f : Nat) (x y : Int), f ≤ n' → (0 < bothS D n' f x y ↔ ∃ v : List Int, v.length = f ∧ DigC D v ∧ runS D ((n' - f : Nat) : Int) x v = D.fin ∧ runS D ((n' - f : Nat) : Int) y v = D.fin)
  | 0, x, y, _ => by
    unfold bothS
    constructor
    · intro h
      split at h
      · rename_i he
        exact ⟨[], rfl, fun d hd => by simp at hd, he.1, he.2⟩
      · omega
    · rintro ⟨v, hv, _, h1, h2⟩
      have : v = [] := List.length_eq_zero_iff.1 hv
      subst this
      rw [if_pos ⟨h1, h2⟩]; decide
  | f + 1, x, y, hf => by
    have hpp : ((n' - (f + 1) : Nat) : Int) + 1 = ((n' - f : Nat) : Int) := by omega
    constructor
    · intro h
      obtain ⟨d, hd, h1⟩ := bothS_ex hbs h
      obtain ⟨v, h2, h3, h4, h5⟩ := (both_pos hbs f _ _ (by omega)).1 h1
      refine ⟨(d : Int) :: v, by rw [List.length_cons, h2], fun z hz => ?_, ?_, ?_⟩
      · rcases List.mem_cons.1 hz with rfl | hz
        · omega
        · exact h3 z hz
      · rw [runS, hpp]; exact h4
      · rw [runS, hpp]; exact h5
    · rintro ⟨v, h1, h2, h3, h4⟩
      obtain ⟨d, v, rfl⟩ : ∃ d u, v = d :: u := by cases v with | nil => simp at h1 | cons d u => exact ⟨d, u, rfl⟩
      have hd := h2 d List.mem_cons_self
      obtain ⟨d, rfl⟩ := Int.eq_ofNat_of_zero_le hd.1
      rw [runS, hpp] at h3 h4
      exact bothS_step_pos hbs (d := d) (by omega) ((both_pos hbs f _ _ (by omega)).2 ⟨v, by simpa using h1, fun z hz => h2 z (List.mem_cons_of_mem _ hz), h3, h4⟩)
/-- a checked word with an undetected error at a place -/
def UE (D : Ch) (n' k bs pl : Nat) (es : List Int) : Prop := es.length = n' ∧ DigC D es ∧ chkD D es = true ∧ ∃ t ∈ chgL k bs ((es.drop pl).take (lenK k)), chkD D (es.take pl ++ t ++ es.drop (pl + lenK k)) = true
theorem anyV_iff (_hok : OkCh D) (hbs : D.base = (bs : Int)) {pl : Nat} {u f v : List Int} {s : Nat} (hu : u.length = pl) (hud : DigC D u) (hs : (s : Int) = runS D 0 D.start u) (hf : f.length = lenK k) (hfd : DigC D f) (hvd : DigC D v) (hlen : pl + lenK k + v.length ≤ n') :
    anyV D n' pl (lenK k) k bs s f v = true ↔ ∃ w, UE D n' k bs pl (u ++ f ++ v ++ w) := by
  have hcut : ∀ w : List Int, (u ++ f ++ v ++ w).take pl = u ∧ ((u ++ f ++ v ++ w).drop pl).take (lenK k) = f ∧ (u ++ f ++ v ++ w).drop (pl + lenK k) = v ++ w := fun w => by
    rw [List.append_assoc, List.append_assoc]
    refine ⟨List.take_left' hu, ?_, ?_⟩
    · rw [List.drop_left' hu]; exact List.take_left' hf
    · rw [← List.append_assoc]
      exact List.drop_left' (by rw [List.length_append, hu, hf])
  have hrun : ∀ (g w : List Int), g.length = lenK k → (chkD D (u ++ g ++ (v ++ w)) = true ↔ runS D ((pl + lenK k + v.length : Nat) : Int) (runS D (pl : Int) (s : Int) (g ++ v)) w = D.fin) := fun g w hg => by
    unfold chkD
    rw [beq_iff_eq, show u ++ g ++ (v ++ w) = u ++ ((g ++ v) ++ w) by simp [List.append_assoc], runS_app, runS_app, ← hs, hu, List.length_append, hg]
    have e : (0 : Int) + (pl : Int) = (pl : Int) := by omega
    rw [e]
    have e2 : (pl : Int) + ((lenK k + v.length : Nat) : Int) = ((pl + lenK k + v.length : Nat) : Int) := by omega
    rw [e2]
  unfold anyV
  rw [List.any_eq_true]
  constructor
  · rintro ⟨t, ht, h1⟩
    unfold posV at h1
    have htl := chgL_len hf ht
    obtain ⟨w, h2, h3, h4, h5⟩ := (both_pos hbs _ _ _ (by omega)).1 (of_decide_eq_true h1)
    rw [show n' - (n' - (pl + lenK k + v.length)) = pl + lenK k + v.length by omega] at h4 h5
    obtain ⟨c1, c2, c3⟩ := hcut w
    refine ⟨w, by simp only [List.length_append, hu, hf, h2]; omega, fun d hd => ?_, ?_, t, by rw [c2]; exact ht, ?_⟩
    · rcases List.mem_append.1 hd with hd | hd
      · rcases List.mem_append.1 hd with hd | hd
        · rcases List.mem_append.1 hd with hd | hd
          · exact hud d hd
          · exact hfd d hd
        · exact hvd d hd
      · exact h3 d hd
    · rw [List.append_assoc]; exact (hrun f w hf).2 h4
    · rw [c1, c3]; exact (hrun t w htl).2 h5
  · rintro ⟨w, h1, h2, h3, t, ht, h4⟩
    obtain ⟨c1, c2, c3⟩ := hcut w
    rw [c2] at ht
    rw [c1, c3] at h4
    rw [List.append_assoc] at h3
    have htl := chgL_len hf ht
    refine ⟨t, ht, ?_⟩
    unfold posV
    refine decide_eq_true ((both_pos hbs _ _ _ (by omega)).2 ⟨w, ?_, fun d hd => h2 d (List.mem_append_right _ hd), ?_, ?_⟩)
    · simp only [List.length_append, hu, hf] at h1; omega
    · rw [show n' - (n' - (pl + lenK k + v.length)) = pl + lenK k + v.length by omega]; exact (hrun f w hf).1 h3
    · rw [show n' - (n' - (pl + lenK k + v.length)) = pl + lenK k + v.length by omega]; exact (hrun t w htl).1 h4
/-- can a beginning go on to such a word -/
def PE (D : Ch) (n' k bs pl : Nat) (u : List Int) : Prop := ∃ w, UE D n' k bs pl (u ++ w)
theorem PE.dig {pl : Nat} {u : List Int} (h : PE D n' k bs pl u) : DigC D u := by
  obtain ⟨w, _, h2, _⟩ := h
  exact fun d hd => h2 d (List.mem_append_left _ hd)
theorem canB_iff (hok : OkCh D) (hbs : D.base = (bs : Int)) (hn : D.places.length = n') {pl : Nat} (hpl : pl + lenK k ≤ n') : ∀ (m : Nat) {u : List Int}, u.length + m = pl → DigC D u → (canB D n' pl (lenK k) k bs m (runS D 0 D.start u) = true ↔ PE D n' k bs pl u)
  | 0, u, hu, hud => by
    have hb := hok.b2
    have hrb := runS_bd hok u 0 D.start hud (Int.le_refl _) (by omega) hok.st0 hok.st1
    have hs : (((runS D 0 D.start u).toNat : Nat) : Int) = runS D 0 D.start u := Int.toNat_of_nonneg hrb.1
    unfold canB
    rw [List.any_eq_true]
    constructor
    · rintro ⟨t, ht, h1⟩
      have htd := tupAt_bd (m := bs) (by omega) (List.mem_range.1 ht)
      rw [← anyV_nil] at h1
      obtain ⟨w, h2⟩ := (anyV_iff (v := []) hok hbs (by omega) hud hs (tupAt_len _ _ _) (fun x hx => by have := htd x hx; omega) (fun x hx => by simp at hx) (by simpa using hpl)).1 h1
      exact ⟨_, by rw [List.append_nil, List.append_assoc] at h2; exact h2⟩
    · rintro ⟨w, hw⟩
      have hwl : lenK k ≤ w.length := by have := hw.1; rw [List.length_append] at this; omega
      have hwd : ∀ x ∈ w.take (lenK k), 0 ≤ x ∧ x < (bs : Int) := fun x hx => by have := hw.2.1 x (List.mem_append_right _ (List.mem_of_mem_take hx)); omega
      obtain ⟨t, h1, h2⟩ := tup_of (w.take (lenK k)) hwd
      have hfl : (w.take (lenK k)).length = lenK k := by rw [List.length_take]; omega
      rw [hfl] at h1 h2
      refine ⟨t, List.mem_range.2 h1, ?_⟩
      rw [← anyV_nil, h2]
      refine (anyV_iff (v := []) hok hbs (by omega) hud hs hfl (fun x hx => by have := hwd x hx; omega) (fun x hx => by simp at hx) (by simpa using hpl)).2 ⟨w.drop (lenK k), ?_⟩
      rw [List.append_nil, List.append_assoc, List.take_append_drop]
      exact hw
  | m + 1, u, hu, hud => by
    have hpm : pl - (m + 1) = u.length := by omega
    have hrun : ∀ d : Nat, runS D 0 D.start (u ++ [(d : Int)]) = nextS D ((pl - (m + 1) : Nat) : Int) (runS D 0 D.start u) (d : Int) := fun d => by
      rw [runS_app, runS, runS, Int.zero_add, hpm]
    unfold canB
    rw [List.any_eq_true]
    constructor
    · rintro ⟨d, hd, h1⟩
      rw [← hrun] at h1
      have hd2 := List.mem_range.1 hd
      obtain ⟨w, hw⟩ := (canB_iff hok hbs hn hpl m (by rw [List.length_append, List.length_singleton]; omega) (fun x hx => by
        rcases List.mem_append.1 hx with hx | hx
        · exact hud x hx
        · rw [List.mem_singleton] at hx; subst hx; omega)).1 h1
      exact ⟨(d : Int) :: w, by rw [List.append_assoc] at hw; exact hw⟩
    · rintro ⟨w, hw⟩
      obtain ⟨x, w, rfl⟩ : ∃ d v, w = d :: v := by
        cases w with
        | nil => have := hw.1; simp at this; omega
        | cons d v => exact ⟨d, v, rfl⟩
      have hx := hw.2.1 x (List.mem_append_right _ List.mem_cons_self)
      obtain ⟨d, rfl⟩ := Int.eq_ofNat_of_zero_le hx.1
      have hp : PE D n' k bs pl (u ++ [(d : Int)]) := ⟨w, by rw [List.append_assoc]; exact hw⟩
      refine ⟨d, List.mem_range.2 (by omega), ?_⟩
      rw [← hrun]
      exact (canB_iff hok hbs hn hpl m (by rw [List.length_append, List.length_singleton]; omega) hp.dig).2 hp
/-- no such word begins lower -/
def NL (D : Ch) (n' k bs pl : Nat) (u : List Int) : Prop := ∀ es, UE D n' k bs pl es → ¬ es.take u.length < u
theorem NL.nil {pl : Nat} : NL D n' k bs pl [] := fun _ _ h => absurd h (List.not_lt_nil _)
/-- the least piece of some length that can go on -/
theorem NL.step {pl : Nat} {u f : List Int} (h : NL D n' k bs pl u) (hl : u.length + f.length ≤ n') (hmin : ∀ g : List Int, g.length = f.length → PE D n' k bs pl (u ++ g) → ¬ g < f) : NL D n' k bs pl (u ++ f) := by
  intro es he hlt
  have hel := he.1
  have hsp : es.take (u ++ f).length = es.take u.length ++ (es.drop u.length).take f.length := by
    rw [List.length_append, List.take_add]
  rw [hsp] at hlt
  have hl1 : (es.take u.length).length = u.length := by rw [List.length_take]; omega
  have hl2 : ((es.drop u.length).take f.length).length = f.length := by rw [List.length_take, List.length_drop]; omega
  rcases lt_tri (es.take u.length) u hl1 with h1 | h1 | h1
  · exact h es he h1
  · rw [h1] at hlt
    refine hmin _ hl2 ⟨es.drop (u.length + f.length), ?_⟩ ((lt_app_same u).2 hlt)
    have e : u ++ (es.drop u.length).take f.length ++ es.drop (u.length + f.length) = es := by
      conv => rhs; rw [← List.take_append_drop (u.length + f.length) es]
      rw [List.take_add, h1]
    rw [e]; exact he
  · exact lt_irr _ (lt_tr (lt_app h1 hl1.symm _ _) hlt)
/-- the least digit that can go on -/
theorem NL.digit {pl : Nat} {u : List Int} {dd : Nat} (_hbs : D.base = (bs : Int)) (h : NL D n' k bs pl u) (hl : u.length + 1 ≤ n') (hmin : ∀ e : Nat, e < dd → ¬ PE D n' k bs pl (u ++ [(e : Int)])) : NL D n' k bs pl (u ++ [(dd : Int)]) := by
  refine h.step (by simpa using hl) fun g hg hp hlt => ?_
  obtain ⟨x, rfl⟩ := List.length_eq_one_iff.1 (show g.length = 1 by simpa using hg)
  have hx := hp.dig x (List.mem_append_right _ (List.mem_singleton.2 rfl))
  obtain ⟨e, rfl⟩ := Int.eq_ofNat_of_zero_le hx.1
  rcases List.cons_lt_cons_iff.1 hlt with h1 | ⟨_, h1⟩
  · exact hmin e (by omega) hp
  · exact lt_irr _ h1
theorem pre_ok (hok : OkCh D) (hbs : D.base = (bs : Int)) (hn : D.places.length = n') {pl : Nat} (hpl : pl + lenK k ≤ n') (h0 : canB D n' pl (lenK k) k bs pl D.start = true) : ∀ i, i ≤ pl → NL D n' k bs pl (preS D n' pl (lenK k) k bs i)
  | 0, _ => NL.nil
  | i + 1, hi => by
    have ih := pre_ok hok hbs hn hpl h0 i (by omega)
    have hpl' := preS_len D n' pl (lenK k) k bs i
    have hd := preS_bd h0 i (by omega)
    rw [preS]
    refine ih.digit hbs (by omega) fun e he hp => ?_
    have h1 := fstI_not he
    have h2 := (canB_iff hok hbs hn hpl (pl - (i + 1)) (u := preS D n' pl (lenK k) k bs i ++ [(e : Int)]) (by rw [List.length_append, List.length_singleton]; omega) hp.dig).2 hp
    rw [runS_app, runS, runS, hpl', Int.zero_add] at h2
    rw [h2] at h1
    cases h1
/-- the word that is built is the least one -/
theorem leastU_ok (hok : OkCh D) (hbs : D.base = (bs : Int)) (hn : D.places.length = n') {pl : Nat} (hpl : pl + lenK k ≤ n') (h5 : k ≤ 4 ∨ 10 ≤ bs) (h0 : canB D n' pl (lenK k) k bs pl D.start = true) : UE D n' k bs pl (leastU D n' pl (lenK k) k bs) ∧ ∀ es, UE D n' k bs pl es → ¬ es < leastU D n' pl (lenK k) k bs := by
  have hb := hok.b2
  have hall := leastU_facts hok hbs hn hpl h5 h0
  have h1 := can_first h0
  have hud : DigC D (preS D n' pl (lenK k) k bs pl) := fun d hd => by have := preS_bd h0 pl (Nat.le_refl _) d hd; omega
  have hul := preS_len D n' pl (lenK k) k bs pl
  have hrb := runS_bd hok (preS D n' pl (lenK k) k bs pl) 0 D.start hud (Int.le_refl _) (by rw [hul]; omega) hok.st0 hok.st1
  have hs : (((runS D 0 D.start (preS D n' pl (lenK k) k bs pl)).toNat : Nat) : Int) = runS D 0 D.start (preS D n' pl (lenK k) k bs pl) := Int.toNat_of_nonneg hrb.1
  have hnl0 := pre_ok hok hbs hn hpl h0 pl (Nat.le_refl _)
  have hLU : leastU D n' pl (lenK k) k bs = preS D n' pl (lenK k) k bs pl ++ tupAt bs (lenK k) (fstI (fun t => hasU D n' pl (lenK k) (runS D 0 D.start (preS D n' pl (lenK k) k bs pl)).toNat k bs (tupAt bs (lenK k) t)) (bs ^ lenK k)) ++ finS D n' pl (lenK k) k bs (runS D 0 D.start (preS D n' pl (lenK k) k bs pl)).toNat (tupAt bs (lenK k) (fstI (fun t => hasU D n' pl (lenK k) (runS D 0 D.start (preS D n' pl (lenK k) k bs pl)).toNat k bs (tupAt bs (lenK k) t)) (bs ^ lenK k))) (n' - (pl + lenK k)) := rfl
  rw [hLU] at hall ⊢
  generalize preS D n' pl (lenK k) k bs pl = u at *
  generalize (runS D 0 D.start u).toNat = s at *
  obtain ⟨h2, h3⟩ := fstI_lt h1
  have hlow : ∀ t, t < fstI (fun t => hasU D n' pl (lenK k) s k bs (tupAt bs (lenK k) t)) (bs ^ lenK k) → hasU D n' pl (lenK k) s k bs (tupAt bs (lenK k) t) = false := fun t ht => fstI_not (P := fun t => hasU D n' pl (lenK k) s k bs (tupAt bs (lenK k) t)) ht
  generalize fstI (fun t => hasU D n' pl (lenK k) s k bs (tupAt bs (lenK k) t)) (bs ^ lenK k) = t0 at *
  have hfl := tupAt_len bs (lenK k) t0
  have hfb := tupAt_bd (m := bs) (by omega) h2
  have hfd : DigC D (tupAt bs (lenK k) t0) := fun d hd => by have := hfb d hd; omega
  have hkl : ∀ t ∈ chgL k bs (tupAt bs (lenK k) t0), t.length = lenK k := fun t ht => chgL_len hfl ht
  have hnl1 : NL D n' k bs pl (u ++ tupAt bs (lenK k) t0) := hnl0.step (by omega) fun g hg hp hlt => by
    rw [hfl] at hg
    have hgd : ∀ x ∈ g, 0 ≤ x ∧ x < (bs : Int) := fun x hx => by have := hp.dig x (List.mem_append_right _ hx); omega
    obtain ⟨t, ht1, ht2⟩ := tup_of g hgd
    rw [hg] at ht1 ht2
    have htt : t < t0 := tup_lt (m := bs) (lenK k) (by rw [ht2]; exact hlt)
    have h4 := hlow t htt
    rw [ht2, ← anyV_nil] at h4
    have h5 := (anyV_iff (v := []) hok hbs hul hud hs hg (fun x hx => by have := hgd x hx; omega) (fun x hx => by simp at hx) (by simpa using hpl)).2 (by
      obtain ⟨w, hw⟩ := hp
      exact ⟨w, by rw [List.append_nil]; exact hw⟩)
    rw [h5] at h4
    cases h4
  generalize tupAt bs (lenK k) t0 = f at *
  rw [← anyV_nil] at h3
  have hfin : ∀ i, pl + lenK k + i ≤ n' → NL D n' k bs pl (u ++ f ++ finS D n' pl (lenK k) k bs s f i) := by
    intro i
    induction i with
    | zero => intro _; rw [finS, List.append_nil]; exact hnl1
    | succ i ih =>
      intro hi
      have hv := finS_len D n' pl (lenK k) k bs s f i
      have hvd := finS_bd hbs hfl hkl h3 i (by omega)
      rw [finS, ← List.append_assoc]
      refine (ih (by omega)).digit hbs (by simp only [List.length_append]; omega) fun e he hp => ?_
      have h4 := fstI_not he
      have hed := hp.dig (e : Int) (List.mem_append_right _ (List.mem_singleton.2 rfl))
      have h6 := (anyV_iff (n' := n') (v := finS D n' pl (lenK k) k bs s f i ++ [(e : Int)]) hok hbs hul hud hs hfl hfd (fun x hx => by
        rcases List.mem_append.1 hx with hx | hx
        · have := hvd x hx; omega
        · rw [List.mem_singleton] at hx; subst hx; exact hed) (by rw [List.length_append, List.length_singleton]; omega)).2 (by
        obtain ⟨w, hw⟩ := hp
        exact ⟨w, by rw [← List.append_assoc]; exact hw⟩)
      rw [h6] at h4
      cases h4
  have hlast := hfin (n' - (pl + lenK k)) (by omega)
  have hany := finS_any hbs hfl hkl h3 (n' - (pl + lenK k)) (by omega)
  have hvl := finS_len D n' pl (lenK k) k bs s f (n' - (pl + lenK k))
  have hvd := finS_bd hbs hfl hkl h3 (n' - (pl + lenK k)) (by omega)
  obtain ⟨w, hw⟩ := (anyV_iff hok hbs hul hud hs hfl hfd (fun x hx => by have := hvd x hx; omega) (by omega)).1 hany
  have hw0 : w = [] := by
    have h7 := hw.1
    simp only [List.length_append, hul, hfl, hvl] at h7
    exact List.length_eq_zero_iff.1 (by omega)
  rw [hw0, List.append_nil] at hw
  refine ⟨hw, fun es he hlt => hlast es he ?_⟩
  rw [hall.1, List.take_of_length_le (by rw [he.1]; exact Nat.le_refl _)]
  exact hlt
theorem canB_none (hok : OkCh D) (hbs : D.base = (bs : Int)) (hn : D.places.length = n') {pl : Nat} (hpl : pl + lenK k ≤ n') (h0 : canB D n' pl (lenK k) k bs pl D.start = false) : ∀ es, ¬ UE D n' k bs pl es := by
  intro es he
  have h1 := (canB_iff hok hbs hn hpl pl (u := []) (by simp) (fun x hx => by simp at hx)).2 ⟨es, he⟩
  rw [runS] at h1
  rw [h1] at h0
  cases h0
end
end Go.Proofs.Ytccoopnoakhedaa

/- Plain: the errors of all places and all checked words; the first of them. Conditions: none. -/
namespace Go.Proofs.Ytccoopnoakhedaa
set_option maxRecDepth 100000
open Go.RowKit

section
variable {D : Ch} {n' k bs S : Nat}
theorem bestP_ok (hok : OkCh D) (hbs : D.base = (bs : Int)) (hn : D.places.length = n') (h5 : k ≤ 4 ∨ 10 ≤ bs) : ∀ p, p + lenK k ≤ n' + 1 →
    (bestP D n' (lenK k) k bs p = none → ∀ pl, pl < p → ∀ es, ¬ UE D n' k bs pl es) ∧ ∀ l, bestP D n' (lenK k) k bs p = some l → (∃ pl, pl < p ∧ UE D n' k bs pl l) ∧ ∀ pl, pl < p → ∀ es, UE D n' k bs pl es → ¬ es < l
  | 0, _ => ⟨fun _ pl h => by omega, fun l h => by simp [bestP] at h⟩
  | p + 1, hp => by
    obtain ⟨i1, i2⟩ := bestP_ok hok hbs hn h5 p (by omega)
    have hstep : bestP D n' (lenK k) k bs (p + 1) = match bestP D n' (lenK k) k bs p with
      | none => if canB D n' p (lenK k) k bs p D.start = true then some (leastU D n' p (lenK k) k bs) else none
      | some b => if canB D n' p (lenK k) k bs p D.start = true ∧ cmpO (leastU D n' p (lenK k) k bs) b < 0 then some (leastU D n' p (lenK k) k bs) else some b := rfl
    rw [hstep]
    cases hc : canB D n' p (lenK k) k bs p D.start
    · have hno := canB_none hok hbs hn (pl := p) (by omega) hc
      cases hb : bestP D n' (lenK k) k bs p with
      | none =>
        simp only [Bool.false_eq_true, if_false]
        refine ⟨fun _ pl hl es => ?_, fun l h => by cases h⟩
        by_cases he : pl = p
        · subst he; exact hno es
        · exact i1 hb pl (by omega) es
      | some b =>
        simp only [Bool.false_eq_true, false_and, if_false]
        obtain ⟨⟨pl0, h1, h2⟩, h3⟩ := i2 b hb
        refine ⟨fun h => by (cases h), fun l h => ?_⟩
        injection h with h; subst h
        refine ⟨⟨pl0, by omega, h2⟩, fun pl hl es he => ?_⟩
        by_cases hep : pl = p
        · subst hep; exact absurd he (hno es)
        · exact h3 pl (by omega) es he
    · obtain ⟨hu, hmin⟩ := leastU_ok hok hbs hn (pl := p) (by omega) h5 hc
      cases hb : bestP D n' (lenK k) k bs p with
      | none =>
        simp only [if_true]
        refine ⟨fun h => by (cases h), fun l h => ?_⟩
        injection h with h; subst h
        refine ⟨⟨p, by omega, hu⟩, fun pl hl es he => ?_⟩
        by_cases hep : pl = p
        · subst hep; exact hmin es he
        · exact absurd he (i1 hb pl (by omega) es)
      | some b =>
        simp only [true_and]
        obtain ⟨⟨pl0, h1, h2⟩, h3⟩ := i2 b hb
        have hlen : (leastU D n' p (lenK k) k bs).length = b.length := by rw [hu.1, h2.1]
        by_cases hlt : cmpO (leastU D n' p (lenK k) k bs) b < 0
        · rw [if_pos hlt]
          refine ⟨fun h => by (cases h), fun l h => ?_⟩
          injection h with h; subst h
          refine ⟨⟨p, by omega, hu⟩, fun pl hl es he hlt2 => ?_⟩
          by_cases hep : pl = p
          · subst hep; exact hmin es he hlt2
          · exact h3 pl (by omega) es he (lt_tr hlt2 (cmpO_lt.1 hlt))
        · rw [if_neg hlt]
          refine ⟨fun h => by (cases h), fun l h => ?_⟩
          injection h with h; subst h
          refine ⟨⟨pl0, by omega, h2⟩, fun pl hl es he hlt2 => ?_⟩
          by_cases hep : pl = p
          · subst hep
            rcases lt_tri (leastU D n' pl (lenK k) k bs) b hlen with h4 | h4 | h4
            · exact hlt (cmpO_lt.2 h4)
            · rw [← h4] at hlt2; exact hmin es he hlt2
            · exact hmin es he (lt_tr hlt2 h4)
          · exact h3 pl (by omega) es he hlt2
theorem bestW_ok {LL : List (List Int)} (hl : ∀ t ∈ LL, t.length = n') : ∀ j, j ≤ LL.length → (bestW D LL j = none → ∀ v ∈ LL.take j, chkD D v = false) ∧ ∀ u, bestW D LL j = some u → (u ∈ LL ∧ chkD D u = true) ∧ ∀ v ∈ LL.take j, chkD D v = true → ¬ v < u
  | 0, _ => ⟨fun _ v h => by simp at h, fun u h => by simp [bestW] at h⟩
  | j + 1, hj => by
    obtain ⟨i1, i2⟩ := bestW_ok hl j (by omega)
    have hstep : bestW D LL (j + 1) = match bestW D LL j with
      | none => if chkD D (gl LL j) = true then some (gl LL j) else none
      | some b => if chkD D (gl LL j) = true ∧ cmpO (gl LL j) b < 0 then some (gl LL j) else some b := rfl
    have hm : gl LL j ∈ LL := gl_mem (by omega)
    have htk : LL.take (j + 1) = LL.take j ++ [gl LL j] := take_gl (by omega)
    have hspl : ∀ v, v ∈ LL.take (j + 1) → v ∈ LL.take j ∨ v = gl LL j := fun v hv => by
      rw [htk] at hv
      rcases List.mem_append.1 hv with hv | hv
      · exact .inl hv
      · exact .inr (List.mem_singleton.1 hv)
    rw [hstep]
    cases hb : bestW D LL j with
    | none =>
      simp only
      cases hc : chkD D (gl LL j)
      · simp only [Bool.false_eq_true, if_false]
        refine ⟨fun _ v hv => ?_, fun u h => by cases h⟩
        rcases hspl v hv with hv | rfl
        · exact i1 hb v hv
        · exact hc
      · simp only [if_true]
        refine ⟨fun h => by (cases h), fun u h => ?_⟩
        injection h with h; subst h
        refine ⟨⟨hm, hc⟩, fun v hv hcv hlt => ?_⟩
        rcases hspl v hv with hv | rfl
        · rw [i1 hb v hv] at hcv; cases hcv
        · exact lt_irr _ hlt
    | some b =>
      simp only
      obtain ⟨⟨h1, h2⟩, h3⟩ := i2 b hb
      by_cases hc : chkD D (gl LL j) = true ∧ cmpO (gl LL j) b < 0
      · rw [if_pos hc]
        refine ⟨fun h => by (cases h), fun u h => ?_⟩
        injection h with h; subst h
        refine ⟨⟨hm, hc.1⟩, fun v hv hcv hlt => ?_⟩
        rcases hspl v hv with hv | rfl
        · exact h3 v hv hcv (lt_tr hlt (cmpO_lt.1 hc.2))
        · exact lt_irr _ hlt
      · rw [if_neg hc]
        refine ⟨fun h => by (cases h), fun u h => ?_⟩
        injection h with h; subst h
        refine ⟨⟨h1, h2⟩, fun v hv hcv hlt => ?_⟩
        rcases hspl v hv with hv | rfl
        · exact h3 v hv hcv hlt
        · exact hc ⟨hcv, cmpO_lt.2 hlt⟩
theorem wordsA_iff (hok : OkCh D) {es : List Int} : es ∈ wordsA D ↔ es.length = D.places.length ∧ DigC D es ∧ chkD D es = true := by
  unfold chkD
  rw [beq_iff_eq]
  exact mem_words (by have := hok.b2; omega) _ _ _ _
theorem UE_any (hok : OkCh D) (hn : D.places.length = n') {es : List Int} : (∃ pl, pl < n' + 1 - lenK k ∧ UE D n' k bs pl es) ↔ es ∈ wordsA D ∧ ∃ u ∈ wrongL k bs es, chkD D u = true := by
  rw [wordsA_iff hok, hn]
  constructor
  · rintro ⟨pl, hpl, h1, h2, h3, t, ht, h4⟩
    exact ⟨⟨h1, h2, h3⟩, _, wrong_iff.2 ⟨pl, by rw [h1]; exact hpl, t, ht, rfl⟩, h4⟩
  · rintro ⟨⟨h1, h2, h3⟩, u, hu, h4⟩
    obtain ⟨pl, hpl, t, ht, rfl⟩ := wrong_iff.1 hu
    exact ⟨pl, by rw [h1] at hpl; exact hpl, h1, h2, h3, t, ht, h4⟩

/-! ### all errors of all checked words, as texts -/
/-- the wrong words of a word, with it -/
def rowE (k bs : Nat) (ds : List Int) : List (ByteArray × ByteArray) := (wwL k bs (textOf ds)).map fun t => (textOf ds, t)
def allE (D : Ch) (k bs : Nat) : List (ByteArray × ByteArray) := (wordsA D).flatMap (rowE k bs)
theorem text_injD {a b : List Int} (ha : Dig36 a) (hb : Dig36 b) (h : textOf a = textOf b) : a = b := by
  rw [← digC_text ha, ← digC_text hb, h]
theorem ww_dig (hok : OkCh D) (hbs : D.base = (bs : Int)) (h5 : k ≤ 4 ∨ 10 ≤ bs) {ds : List Int} (hd : DigC D ds) {u : List Int} (hu : u ∈ wrongL k bs ds) : u.length = ds.length ∧ DigC D u ∧ Dig36 u := by
  obtain ⟨h1, h2⟩ := wrong_dig (fun x hx => by have := hd x hx; omega) h5 hu
  have h3 : DigC D u := fun x hx => by have := h2 x hx; omega
  exact ⟨h1, h3, dig36_of hok.b36 h3⟩
theorem ww_perm (hok : OkCh D) (hbs : D.base = (bs : Int)) (h5 : k ≤ 4 ∨ 10 ≤ bs) {ds : List Int} (hd : DigC D ds) : (wwL k bs (textOf ds)).Perm ((wrongL k bs ds).map textOf) := by
  have h36 := dig36_of hok.b36 hd
  have hw : wwL k bs (textOf ds) = ordS ((wrongL k bs ds).map textOf) := by unfold wwL; rw [digC_text h36]
  rw [hw]
  refine (List.perm_ext_iff_of_nodup ?_ ?_).2 fun x => mem_ordS _
  · exact (ordS_asc _).imp fun {a b} h e => by
      rw [e, lessS_lt] at h
      exact List.lt_irrefl _ h
  · refine List.pairwise_map.2 ((wrongL_nodup k bs ds).imp_of_mem fun {a b} ha hb hab e => hab ?_)
    exact text_injD (ww_dig hok hbs h5 hd ha).2.2 (ww_dig hok hbs h5 hd hb).2.2 e
theorem chk_text (hok : OkCh D) (hv : validCh D = true) (hbs : D.base = (bs : Int)) (h5 : k ≤ 4 ∨ 10 ≤ bs) {ds : List Int} (hm : ds ∈ wordsA D) {u : List Int} (hu : u ∈ wrongL k bs ds) : chkB D (textOf u) = chkD D u := by
  obtain ⟨h1, h2, _⟩ := wordsA_mem hok hm
  obtain ⟨h3, h4, _⟩ := ww_dig hok hbs h5 h2 hu
  exact chkD_chk hok hv h4 (h3.trans h1)
theorem all_found (hok : OkCh D) (hv : validCh D = true) (hS : D.states = (S : Int)) (hbs : D.base = (bs : Int)) (h5 : k ≤ 4 ∨ 10 ≤ bs) : sumL (allE D k bs) (fun p => if chkB D p.2 = true then 1 else 0) = badN D S D.places.length k bs true (D.places.length + 1 - lenK k) := by
  rw [bad_true hok hS hbs h5]
  unfold allE
  rw [sumL_flatMap]
  refine sumL_congr fun ds hd => ?_
  unfold rowE
  rw [sumL_map, sumL_perm (ww_perm hok hbs h5 (wordsA_mem hok hd).2.1), sumL_map]
  exact sumL_congr fun u hu => by rw [chk_text hok hv hbs h5 hd hu]
theorem all_total (hok : OkCh D) (hS : D.states = (S : Int)) (hbs : D.base = (bs : Int)) (h5 : k ≤ 4 ∨ 10 ≤ bs) : ((allE D k bs).length : Int) = badN D S D.places.length k bs false (D.places.length + 1 - lenK k) := by
  rw [bad_false hok hS hbs h5]
  have h1 : ((allE D k bs).length : Int) = sumL (allE D k bs) fun _ => 1 := by rw [sumL_const]; omega
  rw [h1]
  unfold allE
  rw [sumL_flatMap]
  refine sumL_congr fun ds hd => ?_
  unfold rowE
  rw [sumL_map, sumL_const, (ww_perm hok hbs h5 (wordsA_mem hok hd).2.1).length_eq, List.length_map]
  omega
/-- the first of them -/
theorem all_first (hok : OkCh D) (hv : validCh D = true) (hbs : D.base = (bs : Int)) (hn : D.places.length = n') (h5 : k ≤ 4 ∨ 10 ≤ bs) :
    (bestP D n' (lenK k) k bs (n' + 1 - lenK k) = none → (allE D k bs).find? (fun p => chkB D p.2) = none) ∧
      ∀ ds, bestP D n' (lenK k) k bs (n' + 1 - lenK k) = some ds → (allE D k bs).find? (fun p => chkB D p.2) = some (textOf ds, textOf ((bestW D (wrongL k bs ds) (wrongL k bs ds).length).getD [])) := by
  have hno : ∀ ds, ds ∈ wordsA D → (∀ u ∈ wrongL k bs ds, chkD D u = false) → ∀ p ∈ rowE k bs ds, chkB D p.2 = false := fun ds hd h p hp => by
    unfold rowE at hp
    obtain ⟨t, ht, rfl⟩ := List.mem_map.1 hp
    obtain ⟨u, hu, rfl⟩ := (wwL_mem (wordsA_mem hok hd).2.2).1 ht
    exact (chk_text hok hv hbs h5 hd hu).trans (h u hu)
  by_cases hr : n' + 1 - lenK k + lenK k ≤ n' + 1
  · obtain ⟨b1, b2⟩ := bestP_ok hok hbs hn h5 (n' + 1 - lenK k) hr
    refine ⟨fun hb => ?_, fun ds hb => ?_⟩
    · rw [List.find?_eq_none]
      intro p hp
      unfold allE at hp
      obtain ⟨ds, hd, hp⟩ := List.mem_flatMap.1 hp
      have := hno ds hd (fun u hu => by
        cases hc : chkD D u
        · rfl
        · obtain ⟨pl, h1, h2⟩ := (UE_any hok hn).2 ⟨hd, u, hu, hc⟩
          exact absurd h2 (b1 hb pl h1 ds)) p hp
      rw [this]; decide
    · obtain ⟨⟨pl, hpl, hue⟩, hmin⟩ := b2 ds hb
      obtain ⟨hd, u1, hu1, hc1⟩ := (UE_any hok hn).1 ⟨pl, hpl, hue⟩
      obtain ⟨hdl, hdc, hd36⟩ := wordsA_mem hok hd
      have hLL : ∀ t ∈ wrongL k bs ds, t.length = n' := fun t ht => by rw [(ww_dig hok hbs h5 hdc ht).1, hdl, hn]
      obtain ⟨w1, w2⟩ := bestW_ok (D := D) hLL (wrongL k bs ds).length (Nat.le_refl _)
      rw [List.take_length] at w1 w2
      obtain ⟨u0, hu0⟩ : ∃ u0, bestW D (wrongL k bs ds) (wrongL k bs ds).length = some u0 := by
        cases h : bestW D (wrongL k bs ds) (wrongL k bs ds).length with
        | none => rw [w1 h u1 hu1] at hc1; cases hc1
        | some u0 => exact ⟨u0, rfl⟩
      obtain ⟨⟨m0, c0⟩, l0⟩ := w2 u0 hu0
      rw [hu0]
      show _ = some (textOf ds, textOf u0)
      rw [List.find?_eq_some_iff_append]
      refine ⟨(chk_text hok hv hbs h5 hd m0).trans c0, ?_⟩
      obtain ⟨A1, A2, hA⟩ := List.append_of_mem hd
      have ht0 : textOf u0 ∈ wwL k bs (textOf ds) := (wwL_mem hd36).2 ⟨u0, m0, rfl⟩
      obtain ⟨T1, T2, hT⟩ := List.append_of_mem ht0
      refine ⟨A1.flatMap (rowE k bs) ++ T1.map (fun t => (textOf ds, t)), T2.map (fun t => (textOf ds, t)) ++ A2.flatMap (rowE k bs), ?_, ?_⟩
      · unfold allE
        rw [hA, List.flatMap_append, List.flatMap_cons]
        have hrow : rowE k bs ds = T1.map (fun t => (textOf ds, t)) ++ (textOf ds, textOf u0) :: T2.map (fun t => (textOf ds, t)) := by
          unfold rowE
          rw [hT, List.map_append, List.map_cons]
        rw [hrow]
        simp [List.append_assoc]
      · intro p hp
        rcases List.mem_append.1 hp with hp | hp
        · obtain ⟨es, he, hp⟩ := List.mem_flatMap.1 hp
          have hem : es ∈ wordsA D := by rw [hA]; exact List.mem_append_left _ he
          have hlt : es < ds := by
            have h1 : (wordsA D).Pairwise (· < ·) := words_rise D D.places.length 0 D.start
            rw [hA, List.pairwise_append] at h1
            exact h1.2.2 es he ds List.mem_cons_self
          have := hno es hem (fun u hu => by
            cases hc : chkD D u
            · rfl
            · obtain ⟨pl', h1, h2⟩ := (UE_any hok hn).2 ⟨hem, u, hu, hc⟩
              exact absurd hlt (hmin pl' h1 es h2)) p hp
          rw [this]; rfl
        · obtain ⟨t, ht, rfl⟩ := List.mem_map.1 hp
          have htm : t ∈ wwL k bs (textOf ds) := by rw [hT]; exact List.mem_append_left _ ht
          have hlt : lessS t (textOf u0) = true := by
            have h1 : ascS (wwL k bs (textOf ds)) := by unfold wwL; exact ordS_asc _
            unfold ascS at h1
            rw [hT, List.pairwise_append] at h1
            exact h1.2.2 t ht _ List.mem_cons_self
          obtain ⟨u, hu, rfl⟩ := (wwL_mem hd36).1 htm
          have h3 : chkD D u = false := by
            cases hc : chkD D u
            · rfl
            · exfalso
              have h4 := l0 u hu hc
              obtain ⟨e1, e2, e3⟩ := ww_dig hok hbs h5 hdc hu
              obtain ⟨e4, e5, e6⟩ := ww_dig hok hbs h5 hdc m0
              rw [lessS_lt] at hlt
              rcases lt_tri u u0 (e1.trans e4.symm) with h | h | h
              · exact h4 h
              · rw [h] at hlt; exact List.lt_irrefl _ hlt
              · have h6 := text_lt e6 e3 h
                rw [← text_data, ← text_data] at h6
                exact List.lt_irrefl _ (List.lt_trans hlt h6)
          show (!chkB D (textOf u)) = true
          rw [chk_text hok hv hbs h5 hd hu, h3]; rfl
  · have h0 : n' + 1 - lenK k = 0 := by omega
    rw [h0]
    refine ⟨fun _ => ?_, fun ds h => by simp [bestP] at h⟩
    rw [List.find?_eq_none]
    intro p hp
    unfold allE at hp
    obtain ⟨ds, hd, hp⟩ := List.mem_flatMap.1 hp
    have hw : wrongL k bs ds = [] := by
      unfold wrongL
      rw [(wordsA_mem hok hd).1, hn, h0]; rfl
    have := hno ds hd (fun u hu => by rw [hw] at hu; cases hu) p hp
    rw [this]; decide
end
end Go.Proofs.Ytccoopnoakhedaa

/- The law on counts and first errors: walked. -/
namespace Go.Proofs.Ytccoopnoakhedaa
set_option maxRecDepth 100000
open Go.RowKit

/-! ### what the law counts -/
/-- how many of them are checked -/
def fN (D : Ch) (P : List (ByteArray × ByteArray)) : Nat := (P.filter fun p => chkB D p.2).length
/-- the first of them -/
def f1 (D : Ch) (P : List (ByteArray × ByteArray)) : ByteArray × ByteArray := (P.find? fun p => chkB D p.2).getD (⟨#[]⟩, ⟨#[]⟩)
/-- is there one -/
def fB (D : Ch) (P : List (ByteArray × ByteArray)) : Bool := (P.find? fun p => chkB D p.2).isSome
theorem fN_le (D : Ch) (P : List (ByteArray × ByteArray)) : fN D P ≤ P.length := List.length_filter_le _ _
theorem f_no {D : Ch} {P : List (ByteArray × ByteArray)} {p : ByteArray × ByteArray} (h : chkB D p.2 = false) : fN D (P ++ [p]) = fN D P ∧ f1 D (P ++ [p]) = f1 D P ∧ fB D (P ++ [p]) = fB D P := by
  unfold fN f1 fB
  rw [List.filter_append, List.find?_append]
  simp [h]
theorem f_yes {D : Ch} {P : List (ByteArray × ByteArray)} {p : ByteArray × ByteArray} (h : chkB D p.2 = true) : fN D (P ++ [p]) = fN D P + 1 ∧ f1 D (P ++ [p]) = (if fB D P = true then f1 D P else p) ∧ fB D (P ++ [p]) = true := by
  unfold fN f1 fB
  rw [List.filter_append, List.find?_append]
  cases hf : P.find? (fun p => chkB D p.2) <;> simp [h]
theorem fB_none {D : Ch} {P : List (ByteArray × ByteArray)} (h : fB D P = false) : f1 D P = (⟨#[]⟩, ⟨#[]⟩) := by
  unfold fB at h
  unfold f1
  cases hf : P.find? (fun p => chkB D p.2) with
  | none => rfl
  | some q => rw [hf] at h; cases h
theorem fB_mem {D : Ch} {P : List (ByteArray × ByteArray)} (h : fB D P = true) : f1 D P ∈ P := by
  unfold fB at h
  unfold f1
  cases hf : P.find? (fun p => chkB D p.2) with
  | none => rw [hf] at h; cases h
  | some q => exact List.mem_of_find?_eq_some hf
theorem fN_sum {D : Ch} (P : List (ByteArray × ByteArray)) : sumL P (fun p => if chkB D p.2 = true then 1 else 0) = (fN D P : Int) := by
  induction P with
  | nil => rfl
  | cons p P ih =>
    rw [sumL_cons, ih]
    unfold fN
    rw [List.filter_cons]
    cases h : chkB D p.2
    · simp
    · simp; omega
theorem fN_pos {D : Ch} {P : List (ByteArray × ByteArray)} : fB D P = decide (0 < fN D P) := by
  unfold fB fN
  rw [Bool.eq_iff_iff, decide_eq_true_iff, List.find?_isSome]
  constructor
  · rintro ⟨p, hp, h⟩
    exact List.length_pos_of_mem (List.mem_filter.2 ⟨hp, h⟩)
  · intro h
    obtain ⟨p, hp⟩ := List.exists_mem_of_length_pos h
    obtain ⟨h1, h2⟩ := List.mem_filter.1 hp
    exact ⟨p, h1, h2⟩
/-- the errors of the first words, and of the next one the first -/
def prE (D : Ch) (k bs i j : Nat) : List (ByteArray × ByteArray) := ((wordsA D).take i).flatMap (rowE k bs) ++ (rowE k bs (gl (wordsA D) i)).take j
theorem prE_step {D : Ch} {k bs i j : Nat} (h : j < (wwL k bs (textOf (gl (wordsA D) i))).length) : prE D k bs i (j + 1) = prE D k bs i j ++ [(textOf (gl (wordsA D) i), gs (wwL k bs (textOf (gl (wordsA D) i))) j)] := by
  unfold prE rowE
  rw [List.append_assoc]
  congr 1
  rw [List.take_succ_eq_append_getElem (by rw [List.length_map]; exact h), List.getElem_map, gs_get h]
theorem prE_row {D : Ch} {k bs i : Nat} (h : i < (wordsA D).length) : prE D k bs i (wwL k bs (textOf (gl (wordsA D) i))).length = prE D k bs (i + 1) 0 := by
  unfold prE
  have h1 : (rowE k bs (gl (wordsA D) i)).take (wwL k bs (textOf (gl (wordsA D) i))).length = rowE k bs (gl (wordsA D) i) := List.take_of_length_le (by unfold rowE; rw [List.length_map]; exact Nat.le_refl _)
  rw [h1, List.take_zero, List.append_nil, take_gl h, List.flatMap_append, List.flatMap_cons, List.flatMap_nil, List.append_nil]
theorem prE_fst {D : Ch} {k bs i j : Nat} (hi : i < (wordsA D).length) : ∀ q ∈ prE D k bs i j, ∃ ds ∈ wordsA D, q.1 = textOf ds := by
  intro q hq
  unfold prE at hq
  rcases List.mem_append.1 hq with hq | hq
  · obtain ⟨ds, hd, hq⟩ := List.mem_flatMap.1 hq
    unfold rowE at hq
    obtain ⟨t, _, rfl⟩ := List.mem_map.1 hq
    exact ⟨ds, List.mem_of_mem_take hd, rfl⟩
  · have hq2 := List.mem_of_mem_take hq
    unfold rowE at hq2
    obtain ⟨t, _, rfl⟩ := List.mem_map.1 hq2
    exact ⟨_, gl_mem hi, rfl⟩
theorem prE_all {D : Ch} {k bs : Nat} : prE D k bs (wordsA D).length 0 = allE D k bs := by
  unfold prE allE
  rw [List.take_length, List.take_zero, List.append_nil]
theorem prE_len {D : Ch} {k bs i j : Nat} (hb : bs ≤ 36) (hi : i ≤ (wordsA D).length) (h256 : (wordsA D).length ≤ 256) (hw : ∀ ds ∈ wordsA D, ds.length ≤ 20) : (prE D k bs i j).length ≤ 257000 := by
  have hrow : ∀ ds : List Int, ds.length ≤ 20 → (rowE k bs ds).length ≤ 1000 := fun ds h => by
    unfold rowE
    rw [List.length_map]
    exact wwL_len hb (by rw [textOf_size]; exact h)
  have h1 : ∀ L : List (List Int), (∀ ds ∈ L, ds.length ≤ 20) → (L.flatMap (rowE k bs)).length ≤ L.length * 1000 := by
    intro L
    induction L with
    | nil => intro _; simp
    | cons a L ih =>
      intro h
      rw [List.flatMap_cons, List.length_append, List.length_cons]
      have h2 := ih fun ds hd => h ds (List.mem_cons_of_mem _ hd)
      have h3 := hrow a (h a List.mem_cons_self)
      omega
  have h2 := h1 ((wordsA D).take i) fun ds hd => hw ds (List.mem_of_mem_take hd)
  have h3 : ((wordsA D).take i).length ≤ 256 := by rw [List.length_take]; omega
  have h4 : ((rowE k bs (gl (wordsA D) i)).take j).length ≤ 1000 := by
    rw [List.length_take]
    have h5 : (rowE k bs (gl (wordsA D) i)).length ≤ 1000 := by
      by_cases hlt : i < (wordsA D).length
      · exact hrow _ (hw _ (gl_mem hlt))
      · have hz : gl (wordsA D) i = [] := by
          unfold gl
          rw [List.getD_eq_getElem?_getD, List.getElem?_eq_none (by omega)]; rfl
        rw [hz]; exact hrow _ (by simp)
    omega
  unfold prE
  rw [List.length_append]
  omega

theorem wrap_small {x : Int} (h0 : 0 ≤ x) (h1 : x ≤ 1000000000) : wrap64 x = x := by
  unfold wrap64; omega
set_option maxHeartbeats 16000000 in
theorem lawCounted (a : Option Addr) (n c : Nat) (l : List UInt8) (a' : Option Addr) (n' c' : Nat) (l' : List UInt8) (w : World) (hv : Bytes w a n c l) (hn : n ≤ 9223372036854775807) (hv' : Bytes w a' n' c' l') (hn' : n' ≤ 9223372036854775807) :
    Calls Try.prog 3 #[.slice a n c, .slice a' n' c'] w (Ret (.bool true) w) := by
  have HLong := Lib.hid (laws_r8Long a a' n c n' c' w hn hn')
  have HB := Lib.hid hv
  have HB' := Lib.hid hv'
  clear hv hv'
  by_cases hlong : 48 < n ∨ 48 < n'
  · rw [decide_eq_true hlong] at HLong
    clear hlong
    go_enter Try.func3, Try.ntmps3
    go_wp2_with (refine HLong.out.mono ?_; rintro e w1 ⟨rfl, rfl⟩)
    go_ret
    exact ⟨rfl, Ext.refl _⟩
  rw [decide_eq_false hlong] at HLong
  have hn48 : n ≤ 48 ∧ n' ≤ 48 := by omega
  clear hlong
  go_enter Try.func3, Try.ntmps3
  go_upto_region 4 with (first | (go_at_call 4; refine HLong.out.mono ?_; rintro e w1 ⟨rfl, rfl⟩) | (go_at_call 5; refine (spec_R8Chain a n c l w HB.out (by omega)).mono ?_; rintro e w1 ⟨D, ad, x, cc, pd, p, pc, rfl, hdr, hfew, hp, hx3, hch, hx1⟩))
  have Hval := Lib.hid hdr.valid
  have Hok := Lib.hid (validCh_ok hdr.valid)
  have hb2 := hdr.b2
  have hb10 := hdr.b36
  have hp5 := hdr.p5
  have hp1 := hdr.p1
  rw [hp] at hp5 hp1
  have HP := Lib.hid hp
  have hN := few_words Hok.out hfew
  obtain ⟨bs, hbs⟩ : ∃ bs : Nat, D.base = (bs : Int) := Int.eq_ofNat_of_zero_le (by omega)
  obtain ⟨S, hS⟩ : ∃ S : Nat, D.states = (S : Int) := Int.eq_ofNat_of_zero_le (by have := Hok.out.s1; omega)
  have HBs := Lib.hid hbs
  have HS := Lib.hid hS
  have hbs36 : 2 ≤ bs ∧ bs ≤ 36 := by omega
  obtain ⟨wb, hwb⟩ : ∃ wb, wb = w1.alloc (.cells #[.int .i64 D.base, .int .i64 D.states, .int .i64 D.start, .int .i64 D.fin, .slice ad x cc, .slice pd p pc] 27) := ⟨_, rfl⟩
  have hx1b : Ext w1 wb := by rw [hwb]; exact (by repeat (first | (with_reducible exact Ext.refl _) | (with_reducible refine Ext.drewN ?_ _) | (with_reducible refine Ext.drew ?_) | (with_reducible refine Ext.alloc ?_ _) | ((with_reducible refine Ext.setCell ?_ ?_ _); rotate_left; focus (first | (simp; done) | (simp; omega) | omega)) | assumption | (with_reducible refine Ext.trans ?_ (by assumption))))
  have HA := Lib.hid (show ChAt wb w1.heap.size D ad x cc pd p pc by rw [hwb]; exact hch.box _)
  have hxwb : Ext w wb := hx1.trans hx1b
  have HI := Lib.hid (hch.ext hx1b)
  rw [← hwb]
  obtain ⟨q, hq⟩ : ∃ q, q = w1.heap.size := ⟨_, rfl⟩
  rw [← hq] at HA ⊢
  obtain ⟨k0, k1, k2, k3, k4, k5, _, _⟩ := HA.out
  clear hwb hq hdr hfew hp hch HLong hx1 hx1b HB hbs hS
  have hz := r8_bd l' 0 6 (by omega)
  have HR0 := Lib.hid (fun W (h : Ext w W) => laws_r8 a' n' c' l' 0 6 W (HB'.out.ext h) (by omega) (by omega) (by omega))
  generalize r8 l' 0 6 = r0 at *
  obtain ⟨k, rfl⟩ := Int.eq_ofNat_of_zero_le hz.1
  have hk5 : k ≤ 5 := by omega
  have HCt := Lib.hid (fun W (h : Ext wb W) => impl_CountWords D ad x cc pd p pc W (HI.out.ext h) Hval.out)
  by_cases hkk : ¬ (k ≤ 4 ∨ 10 ≤ bs)
  · have hk : k = 5 := by omega
    subst hk
    have hb9 : bs < 10 := by omega
    have HUn := Lib.hid (fun W (h : Ext wb W) => impl_UndetNo D ad x cc pd p pc 5 (by unfold kindI inB; simp; have := HBs.out; omega) W (HI.out.ext h) Hval.out)
    have HCg := Lib.hid (fun W (h : Ext wb W) => impl_Caught D ad x cc pd p pc 5 0 0 false W (HI.out.ext h) (Lib.hid fun W' hx => HUn.out W' (h.trans hx)))
    obtain ⟨N, hNe⟩ : ∃ N, N = (wordsA D).length := ⟨_, rfl⟩
    rw [← hNe] at HCt hN
    clear hNe hkk
    have hb9' : D.base < 10 := by have := HBs.out; omega
    have hxbb : Ext wb wb := Ext.refl _
    go_wp2_with (first | (go_at_call 6; (with_reducible refine (HR0.out _ hxwb).mono ?_); rintro e w2 ⟨rfl, rfl⟩) | (go_at_call 7; (with_reducible refine (HUn.out _ (by repeat (first | (with_reducible exact Ext.refl _) | (with_reducible assumption) | (with_reducible refine Ext.drewN ?_ _) | (with_reducible refine Ext.drew ?_) | (with_reducible refine Ext.alloc ?_ _) | ((with_reducible refine Ext.setCell ?_ ?_ _); rotate_left; focus (first | (simp; done) | (simp; omega) | omega)) | (with_reducible refine Ext.trans ?_ (by with_reducible assumption))))).mono ?_); rintro e w2 ⟨rfl, hy2⟩; have hx2 : Ext wb w2 := Ext.trans (by repeat (first | (with_reducible exact Ext.refl _) | (with_reducible assumption) | (with_reducible refine Ext.drewN ?_ _) | (with_reducible refine Ext.drew ?_) | (with_reducible refine Ext.alloc ?_ _) | ((with_reducible refine Ext.setCell ?_ ?_ _); rotate_left; focus (first | (simp; done) | (simp; omega) | omega)) | (with_reducible refine Ext.trans ?_ (by with_reducible assumption)))) hy2; clear hy2) | (go_at_call 8; (with_reducible refine (HCt.out _ (by repeat (first | (with_reducible exact Ext.refl _) | (with_reducible assumption) | (with_reducible refine Ext.drewN ?_ _) | (with_reducible refine Ext.drew ?_) | (with_reducible refine Ext.alloc ?_ _) | ((with_reducible refine Ext.setCell ?_ ?_ _); rotate_left; focus (first | (simp; done) | (simp; omega) | omega)) | (with_reducible refine Ext.trans ?_ (by with_reducible assumption))))).mono ?_); rintro e w3 ⟨rfl, hy3⟩; have hx3' : Ext wb w3 := Ext.trans (by repeat (first | (with_reducible exact Ext.refl _) | (with_reducible assumption) | (with_reducible refine Ext.drewN ?_ _) | (with_reducible refine Ext.drew ?_) | (with_reducible refine Ext.alloc ?_ _) | ((with_reducible refine Ext.setCell ?_ ?_ _); rotate_left; focus (first | (simp; done) | (simp; omega) | omega)) | (with_reducible refine Ext.trans ?_ (by with_reducible assumption)))) hy3; clear hy3) | (go_at_call 9; (with_reducible refine (HCg.out _ (by repeat (first | (with_reducible exact Ext.refl _) | (with_reducible assumption) | (with_reducible refine Ext.drewN ?_ _) | (with_reducible refine Ext.drew ?_) | (with_reducible refine Ext.alloc ?_ _) | ((with_reducible refine Ext.setCell ?_ ?_ _); rotate_left; focus (first | (simp; done) | (simp; omega) | omega)) | (with_reducible refine Ext.trans ?_ (by with_reducible assumption))))).mono ?_); rintro e w4 ⟨rfl, hy4⟩; have hx4 : Ext wb w4 := Ext.trans (by repeat (first | (with_reducible exact Ext.refl _) | (with_reducible assumption) | (with_reducible refine Ext.drewN ?_ _) | (with_reducible refine Ext.drew ?_) | (with_reducible refine Ext.alloc ?_ _) | ((with_reducible refine Ext.setCell ?_ ?_ _); rotate_left; focus (first | (simp; done) | (simp; omega) | omega)) | (with_reducible refine Ext.trans ?_ (by with_reducible assumption)))) hy4; clear hy4))
    go_ret
    exact ⟨rfl, hxwb.trans hx4⟩
  · have hkk' : k ≤ 4 ∨ 10 ≤ bs := Decidable.not_not.1 hkk
    have HKk := Lib.hid hkk'
    obtain ⟨F, hF⟩ : ∃ F, F = fN D (allE D k bs) := ⟨_, rfl⟩
    obtain ⟨T, hT⟩ : ∃ T, T = (allE D k bs).length := ⟨_, rfl⟩
    have hw20 : ∀ ds ∈ wordsA D, ds.length ≤ 20 := fun ds hd => by rw [(wordsA_mem Hok.out hd).1]; exact Hok.out.p20
    have hT1 : T ≤ 257000 := by rw [hT, ← prE_all]; exact prE_len hbs36.2 (Nat.le_refl _) hN hw20
    have hFT : F ≤ T := by rw [hF, hT]; exact fN_le _ _
    have hUF : wrap64 (badN D S p k bs true (p + 1 - lenK k)) = (F : Int) := by
      have h := all_found Hok.out Hval.out HS.out HBs.out hkk'
      rw [fN_sum, HP.out, ← hF] at h
      rw [← h]; exact wrap_small (by omega) (by omega)
    have hUT : wrap64 (badN D S p k bs false (p + 1 - lenK k)) = (T : Int) := by
      have h := all_total Hok.out HS.out HBs.out hkk'
      rw [HP.out, ← hT] at h
      rw [← h]; exact wrap_small (by omega) (by omega)
    have HUn := Lib.hid (fun W (h : Ext wb W) => impl_UndetG D ad x cc pd p pc S k hk5 bs HBs.out hkk' W (HI.out.ext h) Hval.out HS.out)
    rw [hUF, hUT] at HUn
    have HCg := Lib.hid (fun W (h : Ext wb W) => impl_Caught D ad x cc pd p pc (k : Int) (F : Int) (T : Int) true W (HI.out.ext h) (Lib.hid fun W' hx => HUn.out W' (h.trans hx)))
    have HFu := Lib.hid (fun W (h : Ext wb W) => impl_FirstU D ad x cc pd p pc S k hk5 bs HBs.out hkk' W (HI.out.ext h) Hval.out HS.out)
    have HWA := Lib.hid (fun r W (h : Ext wb W) => impl_WordAt D ad x cc pd p pc r W (HI.out.ext h) Hval.out)
    have HIC := Lib.hid (fun s W (hs : s.size ≤ 1048576) (h : Ext wb W) => impl_IsChecked D ad x cc pd p pc s W (HI.out.ext h) hs)
    have HWw := Lib.hid (fun s W (hs : s.size ≤ 1048576) => impl_WrongWords k bs hk5 hbs36.2 s W hs)
    rw [← HBs.out] at HWw
    have HFirst := Lib.hid (all_first Hok.out Hval.out HBs.out HP.out hkk')
    have HF := Lib.hid hF
    have HT := Lib.hid hT
    obtain ⟨N, hNe⟩ : ∃ N, N = (wordsA D).length := ⟨_, rfl⟩
    have HNe := Lib.hid hNe
    rw [← hNe] at HCt hN
    have HLen := Lib.hid (show ∀ i j, i ≤ N → (prE D k bs i j).length ≤ 257000 from fun i j hi => prE_len hbs36.2 (by rw [← hNe]; exact hi) (by rw [← hNe]; exact hN) hw20)
    have hxbb : Ext wb wb := Ext.refl _
    clear hNe hF hT hUF hUT hkk hkk' hw20
    go_upto_region 7 with (first | (go_at_call 6; (with_reducible refine (HR0.out _ hxwb).mono ?_); rintro e w2 ⟨rfl, rfl⟩) | (go_at_call 7; (with_reducible refine (HUn.out _ (by repeat (first | (with_reducible exact Ext.refl _) | (with_reducible assumption) | (with_reducible refine Ext.drewN ?_ _) | (with_reducible refine Ext.drew ?_) | (with_reducible refine Ext.alloc ?_ _) | ((with_reducible refine Ext.setCell ?_ ?_ _); rotate_left; focus (first | (simp; done) | (simp; omega) | omega)) | (with_reducible refine Ext.trans ?_ (by with_reducible assumption))))).mono ?_); rintro e w2 ⟨rfl, hy2⟩; have hx2 : Ext wb w2 := Ext.trans (by repeat (first | (with_reducible exact Ext.refl _) | (with_reducible assumption) | (with_reducible refine Ext.drewN ?_ _) | (with_reducible refine Ext.drew ?_) | (with_reducible refine Ext.alloc ?_ _) | ((with_reducible refine Ext.setCell ?_ ?_ _); rotate_left; focus (first | (simp; done) | (simp; omega) | omega)) | (with_reducible refine Ext.trans ?_ (by with_reducible assumption)))) hy2; clear hy2) | (go_at_call 8; (with_reducible refine (HCt.out _ (by repeat (first | (with_reducible exact Ext.refl _) | (with_reducible assumption) | (with_reducible refine Ext.drewN ?_ _) | (with_reducible refine Ext.drew ?_) | (with_reducible refine Ext.alloc ?_ _) | ((with_reducible refine Ext.setCell ?_ ?_ _); rotate_left; focus (first | (simp; done) | (simp; omega) | omega)) | (with_reducible refine Ext.trans ?_ (by with_reducible assumption))))).mono ?_); rintro e w3 ⟨rfl, hy3⟩; have hx3' : Ext wb w3 := Ext.trans (by repeat (first | (with_reducible exact Ext.refl _) | (with_reducible assumption) | (with_reducible refine Ext.drewN ?_ _) | (with_reducible refine Ext.drew ?_) | (with_reducible refine Ext.alloc ?_ _) | ((with_reducible refine Ext.setCell ?_ ?_ _); rotate_left; focus (first | (simp; done) | (simp; omega) | omega)) | (with_reducible refine Ext.trans ?_ (by with_reducible assumption)))) hy3; clear hy3))
    have c0 := k0 w3 hx3'
    go_cut [60] from 44 to 59 (fun s60 wx => s60 = .bool false ∧ wx = w3)
    case first =>
      by_cases hk4 : k ≤ 4
      · go_wp2_with fail
        go_meet
        exact ⟨congrArg Value.bool (decide_eq_false (by omega)), rfl⟩
      · have hk5' : k = 5 := by omega
        have h10 : 10 ≤ D.base := by have := HKk.out; have := HBs.out; omega
        subst hk5'
        go_wp2_with fail
        go_meet
        exact ⟨congrArg Value.bool (decide_eq_false (by omega)), rfl⟩
    case rest =>
      obtain ⟨rfl, rfl⟩ := hcut
      clear c0
      go_wp2_with fail
      go_loopw [12, 13, 14, 15, 16] (fun v12 v13 v14 v15 v16 wr => ∃ (i F1 T1 : Nat) (s1 s2 : ByteArray), i ≤ N ∧ v12 = .int .i64 F1 ∧ v13 = .int .i64 T1 ∧ v14 = .string s1 ∧ v15 = .string s2 ∧ v16 = .int .i64 i ∧ Hid (F1 = fN D (prE D k bs i 0)) ∧ Hid (T1 = (prE D k bs i 0).length) ∧ Hid ((s1, s2) = f1 D (prE D k bs i 0)) ∧ Ext wb wr) (fun _ _ _ _ v16 _ => N - (intOf v16).toNat)
      case atStart => exact ⟨0, 0, 0, ⟨#[]⟩, ⟨#[]⟩, Nat.zero_le _, rfl, rfl, rfl, rfl, rfl, rfl, rfl, rfl, hx3'⟩
      case round =>
        clear hx3'
        obtain ⟨i, F1, T1, s1, s2, hi, rfl, rfl, rfl, rfl, rfl, HF1, HT1, HS1, hxr⟩ := hrel
        by_cases hlt : i < N
        · have hlt2 : i < (wordsA D).length := by rw [← HNe.out]; exact hlt
          obtain ⟨ds, hds⟩ : ∃ ds, ds = gl (wordsA D) i := ⟨_, rfl⟩
          have hm := gl_mem hlt2
          rw [← hds] at hm
          obtain ⟨hl, hd, hd36⟩ := wordsA_mem Hok.out hm
          have HW1 := Lib.hid (show watB D (i : Nat) = true ∧ watT D (i : Nat) = textOf ds from by
            have h1 : watB D (i : Nat) = true := by unfold watB; rw [decide_eq_true_iff, ← HNe.out]; omega
            exact ⟨h1, by rw [watT, h1, hds]; rfl⟩)
          have hsz : (textOf ds).size = p := by rw [textOf_size, hl]; exact HP.out
          obtain ⟨s, hs⟩ : ∃ s, s = textOf ds := ⟨_, rfl⟩
          have hwB : wwB k bs s = true := by
            unfold wwB
            rw [hs, ← HBs.out, wordB_text ⟨Hok.out.b2, Hok.out.b36⟩ hd (by rw [hl]; exact Hok.out.p20)]
            unfold kindB; simp; have := HKk.out; have := HBs.out; omega
          have hwV : wwV k bs s = wwL k bs s := by unfold wwV; rw [hwB]; rfl
          have hwl := wwL_len (k := k) (base := bs) (s := s) hbs36.2 (by rw [hs]; omega)
          have HWk := Lib.hid (fun W => HWw.out s W (by rw [hs]; omega))
          rw [hwV, hwB] at HWk
          obtain ⟨L, hL⟩ : ∃ L, L = wwL k bs s := ⟨_, rfl⟩
          rw [← hL] at HWk hwl
          obtain ⟨m, hm2⟩ : ∃ m, m = L.length := ⟨_, rfl⟩
          rw [← hm2] at hwl
          have HLm := Lib.hid hm2
          rw [← hs] at HW1 hsz
          have HRow := Lib.hid (show prE D k bs i m = prE D k bs (i + 1) 0 from by
            have h := prE_row (D := D) (k := k) (bs := bs) hlt2
            rw [← hds, ← hs, ← hL, ← hm2] at h; exact h)
          have HStp := Lib.hid (show ∀ j, j < m → prE D k bs i (j + 1) = prE D k bs i j ++ [(s, gs L j)] from fun j hj => by
            have h := prE_step (D := D) (k := k) (bs := bs) (i := i) (j := j)
            rw [← hds, ← hs, ← hL] at h
            exact h (by rw [← hm2]; exact hj))
          have HSzT := Lib.hid (show ∀ j, j < m → (gs L j).size ≤ 1048576 from fun j hj => by
            have hmm : gs L j ∈ L := by rw [gs_get (by omega)]; exact List.getElem_mem (by omega)
            obtain ⟨u, hu, he⟩ := (wwL_mem hd36).1 (show gs L j ∈ wwL k bs (textOf ds) by rw [← hs, ← hL]; exact hmm)
            rw [he, textOf_size, (ww_dig Hok.out HBs.out HKk.out hd hu).1, hl]
            have := Hok.out.p20
            omega)
          clear hds hm hl hd hd36 hwB hwV hL hm2 hs hlt2
          go_wp2_with (first | (go_at_call 10; (with_reducible refine (HWA.out (i : Nat) _ hxr).mono ?_); rintro e w4 ⟨rfl, hy4⟩; rw [HW1.out.1, HW1.out.2]; have hx4 : Ext wb w4 := hxr.trans hy4; have c4 := k0 w4 hx4; clear hy4) | (go_at_call 11; (with_reducible refine (HWk.out _).mono ?_); rintro e w6 ⟨g6, c6, rfl, ho6, hy6⟩; rw [← HLm.out] at ho6 ⊢; have hx6 : Ext wb w6 := hx4.trans hy6; have HO6 := Lib.hid (show Strs w6 g6 m c6 L from ho6); clear ho6))
          clear c4 hy6
          go_loopw [12, 13, 14, 15, 21] (fun v12 v13 v14 v15 v21 wq => ∃ (j F2 T2 : Nat) (s3 s4 : ByteArray), j ≤ m ∧ v12 = .int .i64 F2 ∧ v13 = .int .i64 T2 ∧ v14 = .string s3 ∧ v15 = .string s4 ∧ v21 = .int .i64 j ∧ Hid (F2 = fN D (prE D k bs i j)) ∧ Hid (T2 = (prE D k bs i j).length) ∧ Hid ((s3, s4) = f1 D (prE D k bs i j)) ∧ Ext w6 wq) (fun _ _ _ _ v21 _ => m - (intOf v21).toNat)
          case atStart => exact ⟨0, F1, T1, s1, s2, Nat.zero_le _, rfl, rfl, rfl, rfl, rfl, HF1.out, HT1.out, HS1.out, Ext.refl _⟩
          case round =>
            rename World => wq
            obtain ⟨j, F2, T2, s3, s4, hj, rfl, rfl, rfl, rfl, rfl, HF2, HT2, HS2, hxq⟩ := hrel
            have hxbq : Ext wb wq := hx6.trans hxq
            by_cases hltj : j < m
            · have hT2b := HLen.out i j hi
              rw [← HT2.out] at hT2b
              have hF2b : F2 ≤ T2 := by rw [HF2.out, HT2.out]; exact fN_le _ _
              have HSt := Lib.hid (HStp.out j hltj)
              obtain ⟨b6, o6, f1', f2'⟩ := Sl.one (P := Try.prog) HO6.out 37 9 und_strs cell_str (j : Int) (by omega) (by omega)
              rw [Int.toNat_natCast, gv_St (l := L) (k := j) (by rw [← HLm.out]; exact hltj)] at f2'
              have HIC2 := Lib.hid (fun W (h : Ext wb W) => HIC.out (gs L j) W (HSzT.out j hltj) h)
              obtain ⟨t, ht⟩ : ∃ t, t = gs L j := ⟨_, rfl⟩
              rw [← ht] at HSt HIC2 f2'
              have e1 : ∀ w', Ext wq w' → w'.cell? ⟨b6, o6, none⟩ = some (.string t) := fun w' h => f2' w' (hxq.trans h)
              have e0 : ∀ w', Ext wq w' → w'.cell? ⟨q, 0, none⟩ = some (.int .i64 D.base) := fun w' h => k0 w' (hxbq.trans h)
              have e2 : ∀ w', Ext wq w' → w'.cell? ⟨q, 1, none⟩ = some (.int .i64 D.states) := fun w' h => k1 w' (hxbq.trans h)
              have e3 : ∀ w', Ext wq w' → w'.cell? ⟨q, 2, none⟩ = some (.int .i64 D.start) := fun w' h => k2 w' (hxbq.trans h)
              have e4 : ∀ w', Ext wq w' → w'.cell? ⟨q, 3, none⟩ = some (.int .i64 D.fin) := fun w' h => k3 w' (hxbq.trans h)
              have e5 : ∀ w', Ext wq w' → w'.cell? ⟨q, 4, none⟩ = some (.slice ad x cc) := fun w' h => k4 w' (hxbq.trans h)
              have e6 : ∀ w', Ext wq w' → w'.cell? ⟨q, 5, none⟩ = some (.slice pd p pc) := fun w' h => k5 w' (hxbq.trans h)
              clear ht f2'
              cases hc : chkB D t
              · rw [hc] at HIC2
                obtain ⟨g1, g2, g3⟩ := f_no (D := D) (P := prE D k bs i j) (p := (s, t)) hc
                have HG := Lib.hid (show fN D (prE D k bs i (j + 1)) = F2 ∧ (prE D k bs i (j + 1)).length = T2 + 1 ∧ f1 D (prE D k bs i (j + 1)) = (s3, s4) from by
                  rw [HSt.out, g1, g2, List.length_append, ← HF2.out, ← HT2.out, ← HS2.out]; exact ⟨rfl, rfl, rfl⟩)
                clear g1 g2 g3 hc
                go_wp2_with fail
                (refine wp_region_from wq (by repeat (first | (with_reducible exact Ext.refl _) | (with_reducible refine Ext.drewN ?_ _) | (with_reducible refine Ext.drew ?_) | (with_reducible refine Ext.alloc ?_ _) | ((with_reducible refine Ext.setCell ?_ ?_ _); rotate_left; focus (first | (simp; done) | (simp; omega) | omega)) | assumption | (with_reducible refine Ext.trans ?_ (by assumption)))) (by kernel_rfl) (by kernel_rfl) (by kernel_rfl) ?_; (repeat (first | (refine mix_q rfl ?_; go_big_quiet_step (fail); refine wpQuiet_nil ?_; show wpMix _ _ _ _ _ _ _) | (refine mix_s rfl ?_; go_wp2_with (((with_reducible refine (HIC2.out _ (hxbq.trans (by repeat (first | (with_reducible exact Ext.refl _) | (with_reducible assumption) | (with_reducible refine Ext.drewN ?_ _) | (with_reducible refine Ext.drew ?_) | (with_reducible refine Ext.alloc ?_ _) | ((with_reducible refine Ext.setCell ?_ ?_ _); rotate_left; focus (first | (simp; done) | (simp; omega) | omega)) | (with_reducible refine Ext.trans ?_ (by with_reducible assumption)))))).mono ?_); rintro e w7 ⟨rfl, hy7⟩; have hx7 : Ext wq w7 := Ext.trans (by repeat (first | (with_reducible exact Ext.refl _) | (with_reducible assumption) | (with_reducible refine Ext.drewN ?_ _) | (with_reducible refine Ext.drew ?_) | (with_reducible refine Ext.alloc ?_ _) | ((with_reducible refine Ext.setCell ?_ ?_ _); rotate_left; focus (first | (simp; done) | (simp; omega) | omega)) | (with_reducible refine Ext.trans ?_ (by with_reducible assumption)))) hy7; clear hy7)); first | refine ⟨up_of (by repeat (first | (with_reducible exact Ext.refl _) | (with_reducible refine Ext.drewN ?_ _) | (with_reducible refine Ext.drew ?_) | (with_reducible refine Ext.alloc ?_ _) | ((with_reducible refine Ext.setCell ?_ ?_ _); rotate_left; focus (first | (simp; done) | (simp; omega) | omega)) | assumption | (with_reducible refine Ext.trans ?_ (by assumption)))), ?_⟩ | refine ⟨rfl, rfl, up_of (by repeat (first | (with_reducible exact Ext.refl _) | (with_reducible refine Ext.drewN ?_ _) | (with_reducible refine Ext.drew ?_) | (with_reducible refine Ext.alloc ?_ _) | ((with_reducible refine Ext.setCell ?_ ?_ _); rotate_left; focus (first | (simp; done) | (simp; omega) | omega)) | assumption | (with_reducible refine Ext.trans ?_ (by assumption)))), ?_⟩))); refine mix_nil ?_)
                go_wp2_with fail
                exact ⟨⟨j + 1, F2, T2 + 1, s3, s4, by omega, rfl, by go_num, rfl, rfl, by go_num, HG.out.1.symm, HG.out.2.1.symm, HG.out.2.2.symm, hxq.trans hx7⟩, by simp [intOf]; omega⟩
              · rw [hc] at HIC2
                obtain ⟨g1, g2, g3⟩ := f_yes (D := D) (P := prE D k bs i j) (p := (s, t)) hc
                cases hfb : fB D (prE D k bs i j)
                · have hnone := fB_none hfb
                  rw [hfb, if_neg (by decide)] at g2
                  have HG := Lib.hid (show fN D (prE D k bs i (j + 1)) = F2 + 1 ∧ (prE D k bs i (j + 1)).length = T2 + 1 ∧ f1 D (prE D k bs i (j + 1)) = (s, t) from by
                    rw [HSt.out, g1, g2, List.length_append, ← HF2.out, ← HT2.out]; exact ⟨rfl, rfl, rfl⟩)
                  have hs34 : (s3, s4) = ((⟨#[]⟩ : ByteArray), (⟨#[]⟩ : ByteArray)) := HS2.out.trans hnone
                  obtain ⟨rfl, rfl⟩ := Prod.mk.inj hs34
                  clear g1 g2 g3 hc hfb hnone hs34
                  go_wp2_with fail
                  (refine wp_region_from wq (by repeat (first | (with_reducible exact Ext.refl _) | (with_reducible refine Ext.drewN ?_ _) | (with_reducible refine Ext.drew ?_) | (with_reducible refine Ext.alloc ?_ _) | ((with_reducible refine Ext.setCell ?_ ?_ _); rotate_left; focus (first | (simp; done) | (simp; omega) | omega)) | assumption | (with_reducible refine Ext.trans ?_ (by assumption)))) (by kernel_rfl) (by kernel_rfl) (by kernel_rfl) ?_; (repeat (first | (refine mix_q rfl ?_; go_big_quiet_step (fail); refine wpQuiet_nil ?_; show wpMix _ _ _ _ _ _ _) | (refine mix_s rfl ?_; go_wp2_with (((with_reducible refine (HIC2.out _ (hxbq.trans (by repeat (first | (with_reducible exact Ext.refl _) | (with_reducible assumption) | (with_reducible refine Ext.drewN ?_ _) | (with_reducible refine Ext.drew ?_) | (with_reducible refine Ext.alloc ?_ _) | ((with_reducible refine Ext.setCell ?_ ?_ _); rotate_left; focus (first | (simp; done) | (simp; omega) | omega)) | (with_reducible refine Ext.trans ?_ (by with_reducible assumption)))))).mono ?_); rintro e w7 ⟨rfl, hy7⟩; have hx7 : Ext wq w7 := Ext.trans (by repeat (first | (with_reducible exact Ext.refl _) | (with_reducible assumption) | (with_reducible refine Ext.drewN ?_ _) | (with_reducible refine Ext.drew ?_) | (with_reducible refine Ext.alloc ?_ _) | ((with_reducible refine Ext.setCell ?_ ?_ _); rotate_left; focus (first | (simp; done) | (simp; omega) | omega)) | (with_reducible refine Ext.trans ?_ (by with_reducible assumption)))) hy7; clear hy7)); first | refine ⟨up_of (by repeat (first | (with_reducible exact Ext.refl _) | (with_reducible refine Ext.drewN ?_ _) | (with_reducible refine Ext.drew ?_) | (with_reducible refine Ext.alloc ?_ _) | ((with_reducible refine Ext.setCell ?_ ?_ _); rotate_left; focus (first | (simp; done) | (simp; omega) | omega)) | assumption | (with_reducible refine Ext.trans ?_ (by assumption)))), ?_⟩ | refine ⟨rfl, rfl, up_of (by repeat (first | (with_reducible exact Ext.refl _) | (with_reducible refine Ext.drewN ?_ _) | (with_reducible refine Ext.drew ?_) | (with_reducible refine Ext.alloc ?_ _) | ((with_reducible refine Ext.setCell ?_ ?_ _); rotate_left; focus (first | (simp; done) | (simp; omega) | omega)) | assumption | (with_reducible refine Ext.trans ?_ (by assumption)))), ?_⟩))); refine mix_nil ?_)
                  have e17 := e1 _ hx7
                  go_wp2_with fail
                  exact ⟨⟨j + 1, F2 + 1, T2 + 1, s, t, by omega, by go_num, by go_num, rfl, rfl, by go_num, HG.out.1.symm, HG.out.2.1.symm, HG.out.2.2.symm, hxq.trans hx7⟩, by simp [intOf]; omega⟩
                · have hmem := fB_mem hfb
                  rw [hfb, if_pos rfl] at g2
                  have HG := Lib.hid (show fN D (prE D k bs i (j + 1)) = F2 + 1 ∧ (prE D k bs i (j + 1)).length = T2 + 1 ∧ f1 D (prE D k bs i (j + 1)) = (s3, s4) from by
                    rw [HSt.out, g1, g2, List.length_append, ← HF2.out, ← HT2.out, ← HS2.out]; exact ⟨rfl, rfl, rfl⟩)
                  have hne : s3 ≠ ⟨#[]⟩ := by
                    rw [← HS2.out] at hmem
                    obtain ⟨ds', hd', he⟩ := prE_fst (show i < (wordsA D).length by rw [← HNe.out]; exact hlt) _ hmem
                    intro h0
                    have h1 : (textOf ds').size = 0 := by rw [← he]; show s3.size = 0; rw [h0]; rfl
                    rw [textOf_size, (wordsA_mem Hok.out hd').1, HP.out] at h1
                    omega
                  have hq : s3.toList.isEmpty = false := by
                    cases h : s3.toList.isEmpty
                    · rfl
                    · exfalso
                      apply hne
                      have h0 := List.isEmpty_iff.1 h
                      rw [ByteArray.toList_eq] at h0
                      have h2 : s3.data = #[] := by simpa using h0
                      cases s3
                      simp only at h2
                      rw [h2]
                  clear g1 g2 g3 hc hfb hmem
                  go_wp2_with fail
                  (refine wp_region_from wq (by repeat (first | (with_reducible exact Ext.refl _) | (with_reducible refine Ext.drewN ?_ _) | (with_reducible refine Ext.drew ?_) | (with_reducible refine Ext.alloc ?_ _) | ((with_reducible refine Ext.setCell ?_ ?_ _); rotate_left; focus (first | (simp; done) | (simp; omega) | omega)) | assumption | (with_reducible refine Ext.trans ?_ (by assumption)))) (by kernel_rfl) (by kernel_rfl) (by kernel_rfl) ?_; (repeat (first | (refine mix_q rfl ?_; go_big_quiet_step (fail); refine wpQuiet_nil ?_; show wpMix _ _ _ _ _ _ _) | (refine mix_s rfl ?_; go_wp2_with (((with_reducible refine (HIC2.out _ (hxbq.trans (by repeat (first | (with_reducible exact Ext.refl _) | (with_reducible assumption) | (with_reducible refine Ext.drewN ?_ _) | (with_reducible refine Ext.drew ?_) | (with_reducible refine Ext.alloc ?_ _) | ((with_reducible refine Ext.setCell ?_ ?_ _); rotate_left; focus (first | (simp; done) | (simp; omega) | omega)) | (with_reducible refine Ext.trans ?_ (by with_reducible assumption)))))).mono ?_); rintro e w7 ⟨rfl, hy7⟩; have hx7 : Ext wq w7 := Ext.trans (by repeat (first | (with_reducible exact Ext.refl _) | (with_reducible assumption) | (with_reducible refine Ext.drewN ?_ _) | (with_reducible refine Ext.drew ?_) | (with_reducible refine Ext.alloc ?_ _) | ((with_reducible refine Ext.setCell ?_ ?_ _); rotate_left; focus (first | (simp; done) | (simp; omega) | omega)) | (with_reducible refine Ext.trans ?_ (by with_reducible assumption)))) hy7; clear hy7)); first | refine ⟨up_of (by repeat (first | (with_reducible exact Ext.refl _) | (with_reducible refine Ext.drewN ?_ _) | (with_reducible refine Ext.drew ?_) | (with_reducible refine Ext.alloc ?_ _) | ((with_reducible refine Ext.setCell ?_ ?_ _); rotate_left; focus (first | (simp; done) | (simp; omega) | omega)) | assumption | (with_reducible refine Ext.trans ?_ (by assumption)))), ?_⟩ | refine ⟨rfl, rfl, up_of (by repeat (first | (with_reducible exact Ext.refl _) | (with_reducible refine Ext.drewN ?_ _) | (with_reducible refine Ext.drew ?_) | (with_reducible refine Ext.alloc ?_ _) | ((with_reducible refine Ext.setCell ?_ ?_ _); rotate_left; focus (first | (simp; done) | (simp; omega) | omega)) | assumption | (with_reducible refine Ext.trans ?_ (by assumption)))), ?_⟩))); refine mix_nil ?_)
                  go_wp2_with fail
                  exact ⟨⟨j + 1, F2 + 1, T2 + 1, s3, s4, by omega, by go_num, by go_num, rfl, rfl, by go_num, HG.out.1.symm, HG.out.2.1.symm, HG.out.2.2.symm, hxq.trans hx7⟩, by simp [intOf]; omega⟩
            · have hje : j = m := by omega
              rw [hje, HRow.out] at HF2 HT2 HS2
              clear hje
              go_wp2_with fail
              exact ⟨⟨i + 1, F2, T2, s3, s4, by omega, rfl, rfl, rfl, rfl, by go_num, HF2.out, HT2.out, HS2.out, hxbq⟩, by simp [intOf]; omega⟩
        · have hie : i = N := by omega
          have hall : prE D k bs i 0 = allE D k bs := by rw [hie, HNe.out]; exact prE_all
          rw [hall] at HF1 HT1 HS1
          have hF1 : F1 = F := HF1.out.trans HF.out.symm
          have hT1' : T1 = T := HT1.out.trans HT.out.symm
          have hff : fB D (allE D k bs) = decide (0 < F) := by rw [fN_pos, ← HF.out]
          have HFu1 := Lib.hid (fun W (h : Ext wb W) => (HFu.out W h).mono (R' := fun e w' => e = .returned (.tuple #[.string s1, .string s2, .bool (decide (0 < F))]) ∧ Ext W w') (fun e w' hr => by
            obtain ⟨hx, hr⟩ := hr
            rcases hr with ⟨h1, h2⟩ | ⟨ds, h1, h2⟩
            · have h3 := HFirst.out.1 h1
              have h4 : fB D (allE D k bs) = false := by unfold fB; rw [h3]; rfl
              have h5 := HS1.out.trans (fB_none h4)
              obtain ⟨rfl, rfl⟩ := Prod.mk.inj h5
              rw [← hff, h4]
              exact ⟨h2, hx⟩
            · have h3 := HFirst.out.2 ds h1
              have h4 : fB D (allE D k bs) = true := by unfold fB; rw [h3]; rfl
              have h5 : (s1, s2) = (textOf ds, textOf ((bestW D (wrongL k bs ds) (wrongL k bs ds).length).getD [])) := by
                rw [HS1.out]; unfold f1; rw [h3]; rfl
              obtain ⟨rfl, rfl⟩ := Prod.mk.inj h5
              rw [← hff, h4]
              exact ⟨h2, hx⟩))
          subst hF1 hT1'
          clear hall hff HFu HFirst HF1 HT1 HS1 HF HT
          by_cases hF0 : F1 = 0
          · subst hF0
            go_wp2_with (first | (go_at_call 13; (with_reducible refine (HFu1.out _ hxr).mono ?_); rintro e w7 ⟨rfl, hy7⟩; have hx7 : Ext wb w7 := hxr.trans hy7; clear hy7) | (go_at_call 9; (with_reducible refine (HCg.out _ (by repeat (first | (with_reducible exact Ext.refl _) | (with_reducible assumption) | (with_reducible refine Ext.drewN ?_ _) | (with_reducible refine Ext.drew ?_) | (with_reducible refine Ext.alloc ?_ _) | ((with_reducible refine Ext.setCell ?_ ?_ _); rotate_left; focus (first | (simp; done) | (simp; omega) | omega)) | (with_reducible refine Ext.trans ?_ (by with_reducible assumption))))).mono ?_); rintro e w8 ⟨rfl, hy8⟩; have hx8 : Ext wb w8 := Ext.trans (by repeat (first | (with_reducible exact Ext.refl _) | (with_reducible assumption) | (with_reducible refine Ext.drewN ?_ _) | (with_reducible refine Ext.drew ?_) | (with_reducible refine Ext.alloc ?_ _) | ((with_reducible refine Ext.setCell ?_ ?_ _); rotate_left; focus (first | (simp; done) | (simp; omega) | omega)) | (with_reducible refine Ext.trans ?_ (by with_reducible assumption)))) hy8; clear hy8))
            go_ret
            exact ⟨rfl, hxwb.trans hx8⟩
          · have hq1 : ((F1 : Int) == 0) = false := beq_eq_false_iff_ne.2 (by omega)
            have hq2 : decide ((F1 : Int) = 0) = false := decide_eq_false (by omega)
            have hq3 : decide (0 < F1) = true := decide_eq_true (by omega)
            rw [hq3] at HFu1
            rw [hq2] at HCg
            go_wp2_with (first | (go_at_call 13; (with_reducible refine (HFu1.out _ hxr).mono ?_); rintro e w7 ⟨rfl, hy7⟩; have hx7 : Ext wb w7 := hxr.trans hy7; clear hy7) | (go_at_call 9; (with_reducible refine (HCg.out _ (by repeat (first | (with_reducible exact Ext.refl _) | (with_reducible assumption) | (with_reducible refine Ext.drewN ?_ _) | (with_reducible refine Ext.drew ?_) | (with_reducible refine Ext.alloc ?_ _) | ((with_reducible refine Ext.setCell ?_ ?_ _); rotate_left; focus (first | (simp; done) | (simp; omega) | omega)) | (with_reducible refine Ext.trans ?_ (by with_reducible assumption))))).mono ?_); rintro e w8 ⟨rfl, hy8⟩; have hx8 : Ext wb w8 := Ext.trans (by repeat (first | (with_reducible exact Ext.refl _) | (with_reducible assumption) | (with_reducible refine Ext.drewN ?_ _) | (with_reducible refine Ext.drew ?_) | (with_reducible refine Ext.alloc ?_ _) | ((with_reducible refine Ext.setCell ?_ ?_ _); rotate_left; focus (first | (simp; done) | (simp; omega) | omega)) | (with_reducible refine Ext.trans ?_ (by with_reducible assumption)))) hy8; clear hy8))
            go_ret
            exact ⟨rfl, hxwb.trans hx8⟩
end Go.Proofs.Ytccoopnoakhedaa
