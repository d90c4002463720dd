/- Plain: a chain whose steps are one to one: single errors are caught, and a last symbol is the only one. Conditions: none. -/
import Derived.Test.YtohenfbgjjifbaaUndI
import Derived.Test.YtohenfbgjjifbaaChS
namespace Go.Proofs.Ytohenfbgjjifbaa
set_option maxRecDepth 100000
open Go.RowKit

/-- steps are one to one, in the state and in the digit, where states can be reached -/
structure OneOne (D : Ch) (n' : Nat) (R : Nat → Int → Prop) : Prop where
  h0 : R 0 D.start
  hR : ∀ (k : Nat) (x d : Int), k < n' → 0 ≤ x → x < D.states → R k x → 0 ≤ d → d < D.base → R (k + 1) (nextS D k x d)
  hs : ∀ (k : Nat) (x y d : Int), k < n' → 0 ≤ x → x < D.states → 0 ≤ y → y < D.states → R k x → R k y → 0 ≤ d → d < D.base → nextS D k x d = nextS D k y d → x = y
  hd : ∀ (k : Nat) (x d e : Int), k < n' → 0 ≤ x → x < D.states → R k x → 0 ≤ d → d < D.base → 0 ≤ e → e < D.base → nextS D k x d = nextS D k x e → d = e

theorem sum_zero {l : List Int} (h : ∀ x ∈ l, x = 0) : l.sum = 0 := by
  induction l with
  | nil => rfl
  | cons a l ih => rw [List.sum_cons, h a (by simp), ih fun x hx => h x (by simp [hx])]; rfl

theorem both_zero {D : Ch} {n' : Nat} {R : Nat → Int → Prop} (hok : OkCh D) (hn : D.places.length = n') (h : OneOne D n' R) :
    ∀ (r : Nat), r ≤ n' → ∀ s t : Int, 0 ≤ s → s < D.states → 0 ≤ t → t < D.states → R (n' - r) s → R (n' - r) t → s ≠ t → bothS D n' r s t = 0
  | 0, _, s, t, _, _, _, _, _, _, hne => by
    unfold bothS
    rw [if_neg fun ⟨h1, h2⟩ => hne (h1.trans h2.symm)]
  | r + 1, hr, s, t, s0, s1, t0, t1, rs, rt, hne => by
    unfold bothS
    refine sum_zero fun v hv => ?_
    obtain ⟨d, hd, rfl⟩ := List.mem_map.1 hv
    have hd2 := List.mem_range.1 hd
    have hb := hok.b2
    have hk : n' - (r + 1) < n' := by omega
    have a1 := hok.next (p := ((n' - (r + 1) : Nat) : Int)) (by omega) (by omega) s0 s1 (d := d) (by omega) (by omega)
    have a2 := hok.next (p := ((n' - (r + 1) : Nat) : Int)) (by omega) (by omega) t0 t1 (d := d) (by omega) (by omega)
    have b1 := h.hR _ s d hk s0 s1 rs (by omega) (by omega)
    have b2 := h.hR _ t d hk t0 t1 rt (by omega) (by omega)
    rw [show n' - (r + 1) + 1 = n' - r by omega] at b1 b2
    exact both_zero hok hn h r (by omega) _ _ a1.1 a1.2 a2.1 a2.2 b1 b2 fun he => hne (h.hs _ s t d hk s0 s1 t0 t1 rs rt (by omega) (by omega) he)

theorem sep_of {D : Ch} {n' S : Nat} {R : Nat → Int → Prop} (hok : OkCh D) (hn : D.places.length = n') (hS : D.states = (S : Int)) (h : OneOne D n' R) : Sep D n' S := by
  intro pl hpl x y x0 x1 y0 y1 hxy s hs hg
  have hr := begL_in hok hS R h.h0 (fun k x d hk => by rw [hn] at hk; rw [← hS]; exact h.hR k x d hk) pl (by omega) s hs hg
  have a1 := hok.next (p := (pl : Int)) (x := (s : Int)) (by omega) (by omega) (by omega) (by omega) x0 x1
  have a2 := hok.next (p := (pl : Int)) (x := (s : Int)) (by omega) (by omega) (by omega) (by omega) y0 y1
  have b1 := h.hR pl s x (by omega) (by omega) (by omega) hr x0 x1
  have b2 := h.hR pl s y (by omega) (by omega) (by omega) hr y0 y1
  rw [show pl + 1 = n' - (n' - (pl + 1)) by omega] at b1 b2
  simp only [runS]
  exact both_zero hok hn h _ (by omega) _ _ a1.1 a1.2 a2.1 a2.2 b1 b2 fun he => hxy (h.hd pl s x y (by omega) (by omega) (by omega) hr x0 x1 y0 y1 he)

/-- from each state that can be reached before the last place, some digit leads to the end -/
def LastSome (D : Ch) (n : Nat) (R : Nat → Int → Prop) : Prop := ∀ x : Int, 0 ≤ x → x < D.states → R (n - 1) x → ∃ d : Int, 0 ≤ d ∧ d < D.base ∧ nextS D ((n - 1 : Nat) : Int) x d = D.fin
/-- a chain that KnownChain makes: valid, of n places, one to one, ended by some symbol -/
structure KnGood (D : Ch) (n : Nat) : Prop where
  val : validCh D = true
  len : D.places.length = n
  one : ∃ R, OneOne D n R ∧ LastSome D n R
theorem one_range : ∀ (b d0 : Nat), d0 < b → ((List.range b).filter fun d => decide (d = d0)).length = 1
  | 0, _, h => by omega
  | b + 1, d0, h => by
    rw [List.range_succ, List.filter_append, List.length_append]
    by_cases hb : d0 = b
    · subst hb
      rw [List.filter_eq_nil_iff.2 (fun x hx => by have := List.mem_range.1 hx; simp; omega)]
      simp
    · rw [one_range b d0 (by omega)]
      have : ¬ b = d0 := fun h => hb h.symm
      simp [this]
theorem set_last {ds : List Int} {n : Nat} (hl : ds.length = n) (hn : 1 ≤ n) (d : Int) : ds.set (n - 1) d = ds.take (n - 1) ++ [d] := by
  rw [List.set_eq_take_append_cons_drop, if_pos (by omega), List.drop_eq_nil_of_le (by omega)]
theorem reach_all {D : Ch} {n : Nat} {R : Nat → Int → Prop} (hok : OkCh D) (hn : D.places.length = n) (h : OneOne D n R) {ds : List Int} (hd : DigC D ds) (hl : ds.length ≤ n) : ∀ k, k ≤ ds.length → R k (runS D 0 D.start (ds.take k))
  | 0, _ => by simpa [runS] using h.h0
  | k + 1, hk => by
    rw [runS_step D (by omega), Int.zero_add]
    have hb := runS_bd hok (ds.take k) 0 D.start (hd.take k) (by omega) (by rw [List.length_take]; omega) hok.st0 hok.st1
    have hg := hd.at (k := k) (by omega)
    exact h.hR k _ _ (by omega) hb.1 hb.2 (reach_all hok hn h hd hl k (by omega)) hg.1 hg.2
theorem csL_one {D : Ch} {n : Nat} (h : KnGood D n) {ds : List Int} (hd : DigC D ds) (hl : ds.length = n) : (csL D ds (n - 1) D.base.toNat).length = 1 := by
  have hok := validCh_ok h.val
  obtain ⟨R, h1, h2⟩ := h.one
  have hn1 : 1 ≤ n := by have := hok.p1; rw [h.len] at this; exact this
  have hb2 := hok.b2
  have hr := reach_all hok h.len h1 hd (by omega) (n - 1) (by omega)
  have hbd := runS_bd hok (ds.take (n - 1)) 0 D.start (hd.take _) (by omega) (by rw [List.length_take, h.len]; omega) hok.st0 hok.st1
  generalize hx : runS D 0 D.start (ds.take (n - 1)) = x at *
  obtain ⟨d, d0, d1, hd2⟩ := h2 x hbd.1 hbd.2 hr
  obtain ⟨d, rfl⟩ := Int.eq_ofNat_of_zero_le d0
  have hrun : ∀ e : Int, runS D 0 D.start (ds.set (n - 1) e) = nextS D ((n - 1 : Nat) : Int) x e := fun e => by
    rw [set_last hl hn1, runS_snoc, hx, List.length_take, Nat.min_eq_left (by omega), Int.zero_add]
  unfold csL
  rw [List.length_map]
  refine Eq.trans ?_ (one_range D.base.toNat d (by omega))
  congr 1
  refine List.filter_congr fun e he => ?_
  have he2 := List.mem_range.1 he
  unfold csHit
  rw [hrun]
  by_cases hed : e = d
  · subst hed
    simp [hd2]
  · have : ¬ nextS D ((n - 1 : Nat) : Int) x (e : Int) = D.fin := fun hf => hed (by
      have := h1.hd (n - 1) x e d (by omega) hbd.1 hbd.2 hr (by omega) (by omega) (by omega) (by omega) (hf.trans hd2.symm)
      omega)
    simp [hed, this]
end Go.Proofs.Ytohenfbgjjifbaa
