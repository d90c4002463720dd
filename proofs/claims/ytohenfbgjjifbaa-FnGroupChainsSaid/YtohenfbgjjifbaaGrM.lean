/- Plain: groups by tables, the powers of an order, and the chain of a group. Conditions: none. -/
import Derived.Test.YtohenfbgjjifbaaOneL
import Derived.Test.YtohenfbgjjifbaaUndG
import Derived.Test.YtohenfbgjjifbaaAddW
import Derived.Test.YtohenfbgjjifbaaOrd
namespace Go.Proofs.Ytohenfbgjjifbaa
set_option maxRecDepth 100000
open Go.RowKit

/-- the product of two elements -/
def tp (T : List (List Int)) (x y : Nat) : Int := gi (gl T x) y
def tq (T : List (List Int)) (x y : Nat) : Nat := (tp T x y).toNat
/-- a table of n rows of n elements -/
structure SqT (T : List (List Int)) (n : Nat) : Prop where
  len : T.length = n
  row : ∀ x, x < n → (gl T x).length = n
  bd : ∀ x, x < n → ∀ y, y < n → 0 ≤ tp T x y ∧ tp T x y < n
structure GrpT (T : List (List Int)) (n e : Nat) : Prop where
  sq : SqT T n
  n1 : 1 ≤ n
  n10 : n ≤ 10
  e0 : e < n
  il : ∀ x, x < n → tp T e x = x
  ir : ∀ x, x < n → tp T x e = x
  inv : ∀ x, x < n → ∃ y, y < n ∧ tp T x y = e ∧ tp T y x = e
  ass : ∀ x, x < n → ∀ y, y < n → ∀ z, z < n → tp T (tq T x y) z = tp T x (tq T y z)
theorem SqT.q {T : List (List Int)} {n x y : Nat} (h : SqT T n) (hx : x < n) (hy : y < n) : tp T x y = (tq T x y : Int) ∧ tq T x y < n := by
  have := h.bd x hx y hy; unfold tq; omega
theorem tq_of {T : List (List Int)} {x y e : Nat} (h : tp T x y = (e : Int)) : tq T x y = e := by unfold tq; omega
section
variable {T : List (List Int)} {n e x y z : Nat}
theorem GrpT.canL (h : GrpT T n e) (hx : x < n) (hy : y < n) (hz : z < n) (he : tp T z x = tp T z y) : x = y := by
  obtain ⟨u, hu, _, h2⟩ := h.inv z hz
  have a1 := h.ass u hu z hz x hx
  have a2 := h.ass u hu z hz y hy
  have e2 : tq T z x = tq T z y := by unfold tq; rw [he]
  rw [tq_of h2, h.il x hx] at a1
  rw [tq_of h2, h.il y hy] at a2
  rw [e2] at a1
  have := a1.trans a2.symm
  omega
theorem GrpT.canR (h : GrpT T n e) (hx : x < n) (hy : y < n) (hz : z < n) (he : tp T x z = tp T y z) : x = y := by
  obtain ⟨u, hu, h1, _⟩ := h.inv z hz
  have a1 := h.ass x hx z hz u hu
  have a2 := h.ass y hy z hz u hu
  have e2 : tq T x z = tq T y z := by unfold tq; rw [he]
  rw [tq_of h1, h.ir x hx] at a1
  rw [tq_of h1, h.ir y hy] at a2
  rw [e2] at a1
  have := a1.symm.trans a2
  omega
theorem GrpT.uniq (h : GrpT T n e) (hx : x < n) (h1 : ∀ y, y < n → tp T x y = y) : x = e := by
  have a1 := h.ir x hx
  have a2 := h1 e h.e0
  omega
end

/-! ### orders -/
structure OrdL (n : Nat) (g : List Int) : Prop where
  len : g.length = n
  bd : ∀ x, x < n → 0 ≤ gi g x ∧ gi g x < n
  inj : ∀ x, x < n → ∀ y, y < n → gi g x = gi g y → x = y
def gq (g : List Int) (x : Nat) : Nat := (gi g x).toNat
theorem OrdL.q {n x : Nat} {g : List Int} (h : OrdL n g) (hx : x < n) : gi g x = (gq g x : Int) ∧ gq g x < n := by
  have := h.bd x hx; unfold gq; omega
structure AntiT (T : List (List Int)) (n : Nat) (f : List Int) : Prop where
  ord : OrdL n f
  anti : ∀ x, x < n → ∀ y, y < n → x ≠ y → tp T x (gq f y) ≠ tp T y (gq f x)
theorem idL_ord (n : Nat) : OrdL n (idL n) := ⟨idL_len n, fun x hx => by rw [idL_gi hx]; omega, fun x hx y hy h => by rw [idL_gi hx, idL_gi hy] at h; omega⟩
def compL (g f : List Int) : List Int := f.map fun k => gi g k.toNat
theorem compL_len (g f : List Int) : (compL g f).length = f.length := by simp [compL]
theorem compL_gi {g f : List Int} {x : Nat} (h : x < f.length) : gi (compL g f) x = gi g (gq f x) := by
  rw [gi_get (by rw [compL_len]; exact h)]; simp only [compL, List.getElem_map, gq, gi_get h]
def pwL (n : Nat) (f : List Int) : Nat → List Int
  | 0 => idL n
  | j + 1 => compL (pwL n f j) f
theorem pw_ord {n : Nat} {f : List Int} (hf : OrdL n f) : ∀ j, OrdL n (pwL n f j)
  | 0 => idL_ord n
  | j + 1 => by
    have ih := pw_ord hf j
    have hl := hf.len
    refine ⟨(compL_len _ _).trans hf.len, fun x hx => ?_, fun x hx y hy h => ?_⟩
    · rw [pwL, compL_gi (by omega)]
      exact ih.bd _ (hf.q hx).2
    · rw [pwL, compL_gi (by omega), compL_gi (by omega)] at h
      have h2 := ih.inj _ (hf.q hx).2 _ (hf.q hy).2 h
      have a := hf.q hx; have b := hf.q hy
      exact hf.inj x hx y hy (by omega)
theorem pw_comm {n : Nat} {f : List Int} (hf : OrdL n f) : ∀ j x, x < n → gi (pwL n f (j + 1)) x = gi f (gq (pwL n f j) x)
  | 0, x, hx => by
    have hl := hf.len
    have a := hf.q hx
    have e0 : gi (pwL n f (0 + 1)) x = gi (idL n) (gq f x) := compL_gi (by omega)
    have e1 : gq (pwL n f 0) x = x := by unfold gq; rw [show pwL n f 0 = idL n from rfl, idL_gi hx, Int.toNat_natCast]
    rw [e0, e1, idL_gi a.2, ← a.1]
  | j + 1, x, hx => by
    have hl := hf.len
    have a := hf.q hx
    have e0 : gi (pwL n f (j + 1 + 1)) x = gi (pwL n f (j + 1)) (gq f x) := compL_gi (by omega)
    have e1 : gq (pwL n f (j + 1)) x = gq (pwL n f j) (gq f x) := by
      have : gi (pwL n f (j + 1)) x = gi (pwL n f j) (gq f x) := compL_gi (by omega)
      unfold gq at this ⊢
      rw [this]
    rw [e0, e1, pw_comm hf j _ a.2]
def mapsL (n : Nat) (f : List Int) : Nat → List (List Int)
  | 0 => []
  | p + 1 => pwL n f p :: mapsL n f p
theorem mapsL_len (n : Nat) (f : List Int) : ∀ p, (mapsL n f p).length = p
  | 0 => rfl
  | p + 1 => by rw [mapsL, List.length_cons, mapsL_len n f p]
theorem mapsL_gl (n : Nat) (f : List Int) : ∀ p i, i < p → gl (mapsL n f p) i = pwL n f (p - 1 - i)
  | 0, _, h => by omega
  | p + 1, 0, _ => rfl
  | p + 1, i + 1, h => by
    rw [show gl (mapsL n f (p + 1)) (i + 1) = gl (mapsL n f p) i from rfl, mapsL_gl n f p i (by omega)]
    congr 1
    omega
theorem mapsL_rev (n : Nat) (f : List Int) : ∀ p, (mapsL n f p).reverse = (List.range p).map (pwL n f)
  | 0 => rfl
  | p + 1 => by rw [mapsL, List.reverse_cons, mapsL_rev n f p, List.range_succ, List.map_append]; rfl

/-! ### the chain -/
def rowG (T : List (List Int)) (n : Nat) (m : List Int) (x : Nat) : List Int := (List.range n).map fun d => tp T (gq m d) x
def tabG (T : List (List Int)) (n : Nat) (m : List Int) : List (List Int) := (List.range n).map (rowG T n m)
def grpCh (T : List (List Int)) (n e : Nat) (fin : Int) (maps : List (List Int)) : Ch := ⟨n, n, e, fin, maps.map (tabG T n), idL maps.length⟩
structure GrOk (T : List (List Int)) (n e : Nat) (fin : Int) (maps : List (List Int)) : Prop where
  g : GrpT T n e
  n2 : 2 ≤ n
  f0 : 0 ≤ fin
  f1 : fin < n
  l1 : 1 ≤ maps.length
  l4 : maps.length ≤ 4
  o : ∀ p, p < maps.length → OrdL n (gl maps p)
section
variable {T : List (List Int)} {n e : Nat} {fin : Int} {maps : List (List Int)}
theorem grp_next (_h : GrOk T n e fin maps) {p x d : Nat} (hp : p < maps.length) (hx : x < n) (hd : d < n) : nextS (grpCh T n e fin maps) p x d = tp T (gq (gl maps p) d) x := by
  unfold nextS grpCh
  simp only [Int.toNat_natCast]
  rw [idL_gi hp, Int.toNat_natCast, gm_get (by rw [List.length_map]; exact hp), List.getElem_map, ← gl_get hp, tabG, gl_get (by simpa using hx)]
  simp only [List.getElem_map, List.getElem_range, rowG]
  rw [gi_get (by simpa using hd)]
  simp
theorem grp_pow {n l : Nat} (h2 : n ≤ 10) (hl : l ≤ 4) : (n : Int) ^ l ≤ 1000000000000000 := by
  have h : n ^ l ≤ 10000 := by
    refine Nat.le_trans (Nat.pow_le_pow_left h2 l) ?_
    exact Nat.pow_le_pow_right (n := 10) (by decide) hl
  have : (n : Int) ^ l = ((n ^ l : Nat) : Int) := by simp
  omega
theorem grp_valid (h : GrOk T n e fin maps) : validCh (grpCh T n e fin maps) = true := by
  have a1 := h.g.n10; have a2 := h.n2; have a3 := h.f0; have a4 := h.f1; have a5 := h.l1; have a6 := h.l4; have a7 := h.g.e0
  unfold validCh headCh powCh tabsCh placesCh
  simp only [Bool.and_eq_true, List.all_eq_true, decide_eq_true_eq, inB_t, grpCh, List.length_map, idL_len]
  refine ⟨by omega, grp_pow a1 a6, fun t ht => ?_, fun k hk => ?_⟩
  · obtain ⟨m, hm, rfl⟩ := List.mem_map.1 ht
    obtain ⟨p, hp, rfl⟩ := List.mem_iff_getElem.1 hm
    have ho := h.o p hp
    rw [gl_get hp] at ho
    unfold tabCh
    simp only [Bool.and_eq_true, List.all_eq_true, decide_eq_true_eq]
    refine ⟨by simp [tabG], fun r hr => ?_⟩
    obtain ⟨x, hx, rfl⟩ := List.mem_map.1 hr
    rw [List.mem_range] at hx
    unfold rowCh
    simp only [Bool.and_eq_true, List.all_eq_true, decide_eq_true_eq, inB_t]
    refine ⟨by simp [rowG], fun z hz => ?_⟩
    obtain ⟨d, hd, rfl⟩ := List.mem_map.1 hz
    rw [List.mem_range] at hd
    have := h.g.sq.bd _ (ho.q hd).2 x hx
    omega
  · unfold idL at hk
    obtain ⟨i, hi, rfl⟩ := List.mem_map.1 hk
    rw [List.mem_range] at hi
    omega
theorem grp_small (h : GrOk T n e fin maps) : SmallCh (grpCh T n e fin maps) := fun t ht => by
  have a1 := h.g.n10
  obtain ⟨m, hm, rfl⟩ := List.mem_map.1 ht
  refine ⟨by simp [tabG]; omega, fun r hr => ?_⟩
  obtain ⟨x, hx, rfl⟩ := List.mem_map.1 hr
  simp [rowG]; omega
theorem grp_len : (grpCh T n e fin maps).places.length = maps.length := idL_len _
theorem grp_one (h : GrOk T n e fin maps) : OneOne (grpCh T n e fin maps) maps.length fun _ _ => True := by
  refine ⟨trivial, fun _ _ _ _ _ _ _ _ _ => trivial, ?_, ?_⟩
  · intro k x y d hk x0 x1 y0 y1 _ _ d0 d1 he
    change x < n at x1; change y < n at y1; change d < n at d1
    obtain ⟨x, rfl⟩ := Int.eq_ofNat_of_zero_le x0
    obtain ⟨y, rfl⟩ := Int.eq_ofNat_of_zero_le y0
    obtain ⟨d, rfl⟩ := Int.eq_ofNat_of_zero_le d0
    rw [grp_next h hk (by omega) (by omega), grp_next h hk (by omega) (by omega)] at he
    have := h.g.canL (x := x) (y := y) (by omega) (by omega) ((h.o k hk).q (x := d) (by omega)).2 he
    omega
  · intro k x d c hk x0 x1 _ d0 d1 e0 e1 he
    change x < n at x1; change d < n at d1; change c < n at e1
    obtain ⟨x, rfl⟩ := Int.eq_ofNat_of_zero_le x0
    obtain ⟨d, rfl⟩ := Int.eq_ofNat_of_zero_le d0
    obtain ⟨c, rfl⟩ := Int.eq_ofNat_of_zero_le e0
    rw [grp_next h hk (by omega) (by omega), grp_next h hk (by omega) (by omega)] at he
    have a := (h.o k hk).q (x := d) (by omega)
    have b := (h.o k hk).q (x := c) (by omega)
    have h2 := h.g.canR a.2 b.2 (by omega) he
    have := (h.o k hk).inj d (by omega) c (by omega) (by omega)
    omega
/-- the last map is the order itself -/
theorem grp_last (h : GrOk T n e fin maps) (hl : gl maps (maps.length - 1) = idL n) : LastSome (grpCh T n e fin maps) maps.length fun _ _ => True := by
  intro x x0 x1 _
  have hl1 := h.l1
  change x < n at x1
  obtain ⟨x, rfl⟩ := Int.eq_ofNat_of_zero_le x0
  obtain ⟨f, hf⟩ := Int.eq_ofNat_of_zero_le h.f0
  have hfn : f < n := by have := h.f1; omega
  obtain ⟨u, hu, _, h2⟩ := h.g.inv x (by omega)
  have hq := h.g.sq.q hfn hu
  refine ⟨(tq T f u : Nat), by omega, show ((tq T f u : Nat) : Int) < n by omega, ?_⟩
  rw [grp_next h (by omega) (by omega) hq.2, hl]
  unfold gq
  rw [idL_gi hq.2, Int.toNat_natCast]
  show tp T (tq T f u) x = fin
  rw [h.g.ass f hfn u hu x (by omega), tq_of h2, h.g.ir f hfn, hf]
theorem sumN_zero {f : Nat → Int} : ∀ n, (∀ k, k < n → f k = 0) → sumN f n = 0
  | 0, _ => rfl
  | n + 1, h => by rw [sumN, sumN_zero n (fun k hk => h k (by omega)), h n (by omega)]; rfl
/-- maps that follow one another by an antisymmetric order: no swap is undetected -/
theorem grp_swap (h : GrOk T n e fin maps) {f : List Int} (ha : AntiT T n f) (hm : ∀ p, p + 1 < maps.length → ∀ x, x < n → gi (gl maps p) x = gi f (gq (gl maps (p + 1)) x)) : badN (grpCh T n e fin maps) n maps.length 1 n true (maps.length + 1 - lenK 1) = 0 := by
  have hok := validCh_ok (grp_valid h)
  unfold badN
  refine sumN_zero _ fun pl hpl => ?_
  have hpl2 : pl + 2 ≤ maps.length := by have : lenK 1 = 2 := rfl; omega
  unfold badP
  refine sumN_zero _ fun t ht => ?_
  unfold tT
  refine sumN_zero _ fun j hj => ?_
  unfold tJ
  refine sumN_zero _ fun s hs => ?_
  unfold tS
  have hl := tupAt_len n (lenK 1) t
  have hbd := tupAt_bd (m := n) (by have := h.n2; omega) ht
  generalize tupAt n (lenK 1) t = tt at *
  obtain ⟨a, b, rfl⟩ : ∃ a b, tt = [a, b] := by
    have hl2 : tt.length = 2 := hl
    match tt, hl2 with
    | [a, b], _ => exact ⟨a, b, rfl⟩
  have ha0 := hbd a (by simp)
  have hb0 := hbd b (by simp)
  obtain ⟨a, rfl⟩ := Int.eq_ofNat_of_zero_le ha0.1
  obtain ⟨b, rfl⟩ := Int.eq_ofNat_of_zero_le hb0.1
  have hc : chgL 1 n [(a : Int), (b : Int)] = if (a : Int) = b then [] else [[(b : Int), (a : Int)]] := by
    unfold chgL; simp [gi, endsTo]
  rw [hc] at hj ⊢
  by_cases hab : (a : Int) = b
  · rw [if_pos hab] at hj; simp at hj
  rw [if_neg hab] at hj ⊢
  have hj0 : j = 0 := by simpa using hj
  subst hj0
  rw [if_pos rfl, show gl [[(b : Int), (a : Int)]] 0 = [(b : Int), (a : Int)] from rfl]
  have g0 := h.o pl (by omega)
  have g1 := h.o (pl + 1) (by omega)
  have qa0 := g0.q (x := a) (by omega)
  have qb0 := g0.q (x := b) (by omega)
  have qa1 := g1.q (x := a) (by omega)
  have qb1 := g1.q (x := b) (by omega)
  have xa := h.g.sq.q qa0.2 hs
  have xb := h.g.sq.q qb0.2 hs
  have ra : runS (grpCh T n e fin maps) pl s [(a : Int), (b : Int)] = tp T (gq (gl maps (pl + 1)) b) (tq T (gq (gl maps pl) a) s) := by
    simp only [runS]
    rw [grp_next h (by omega) hs (by omega), xa.1]
    exact grp_next h (p := pl + 1) (by omega) xa.2 (by omega)
  have rb : runS (grpCh T n e fin maps) pl s [(b : Int), (a : Int)] = tp T (gq (gl maps (pl + 1)) a) (tq T (gq (gl maps pl) b) s) := by
    simp only [runS]
    rw [grp_next h (by omega) hs (by omega), xb.1]
    exact grp_next h (p := pl + 1) (by omega) xb.2 (by omega)
  have ya := h.g.sq.q qb1.2 xa.2
  have yb := h.g.sq.q qa1.2 xb.2
  have hne : tp T (gq (gl maps (pl + 1)) b) (tq T (gq (gl maps pl) a) s) ≠ tp T (gq (gl maps (pl + 1)) a) (tq T (gq (gl maps pl) b) s) := by
    intro he
    rw [← h.g.ass _ qb1.2 _ qa0.2 s hs, ← h.g.ass _ qa1.2 _ qb0.2 s hs] at he
    have z1 := h.g.sq.q qb1.2 qa0.2
    have z2 := h.g.sq.q qa1.2 qb0.2
    have he2 := h.g.canR z1.2 z2.2 hs he
    have m1 := hm pl (by omega) a (by omega)
    have m2 := hm pl (by omega) b (by omega)
    have f1 := ha.ord.q (x := gq (gl maps (pl + 1)) a) qa1.2
    have f2 := ha.ord.q (x := gq (gl maps (pl + 1)) b) qb1.2
    have k1 : gq (gl maps pl) a = gq f (gq (gl maps (pl + 1)) a) := by omega
    have k2 : gq (gl maps pl) b = gq f (gq (gl maps (pl + 1)) b) := by omega
    have hu : gq (gl maps (pl + 1)) b ≠ gq (gl maps (pl + 1)) a := fun hu => hab (by
      have := g1.inj b (by omega) a (by omega) (by omega)
      omega)
    refine ha.anti _ qb1.2 _ qa1.2 hu ?_
    rw [← k1, ← k2, z1.1, z2.1, he2]
  rw [ra, rb]
  unfold bothF
  rw [show lenK 1 = 2 from rfl]
  have hz : bothS (grpCh T n e fin maps) maps.length (maps.length - (pl + 2)) ((tp T (gq (gl maps (pl + 1)) b) (tq T (gq (gl maps pl) a) s)).toNat : Nat) ((tp T (gq (gl maps (pl + 1)) a) (tq T (gq (gl maps pl) b) s)).toNat : Nat) = 0 :=
    both_zero hok grp_len (grp_one h) _ (by omega) _ _ (by omega) (show _ < (n : Int) by omega) (by omega) (show _ < (n : Int) by omega) trivial trivial (by omega)
  rw [hz, Int.mul_zero]
theorem maps_ok (hg : GrpT T n e) (hn : 2 ≤ n) (h0 : 0 ≤ fin) (h1 : fin < n) {f : List Int} (ha : AntiT T n f) {p : Nat} (hp1 : 1 ≤ p) (hp4 : p ≤ 4) : GrOk T n e fin (mapsL n f p) :=
  ⟨hg, hn, h0, h1, by rw [mapsL_len]; exact hp1, by rw [mapsL_len]; exact hp4, fun i hi => by rw [mapsL_len] at hi; rw [mapsL_gl n f p i hi]; exact pw_ord ha.ord _⟩
theorem maps_last {f : List Int} {p : Nat} (hp1 : 1 ≤ p) : gl (mapsL n f p) ((mapsL n f p).length - 1) = idL n := by
  rw [mapsL_len, mapsL_gl n f p _ (by omega), show p - 1 - (p - 1) = 0 by omega]; rfl
theorem maps_step {f : List Int} (hf : OrdL n f) {p : Nat} : ∀ i, i + 1 < (mapsL n f p).length → ∀ x, x < n → gi (gl (mapsL n f p) i) x = gi f (gq (gl (mapsL n f p) (i + 1)) x) := by
  intro i hi x hx
  rw [mapsL_len] at hi
  rw [mapsL_gl n f p i (by omega), mapsL_gl n f p (i + 1) hi, show p - 1 - i = p - 1 - (i + 1) + 1 by omega, pw_comm hf _ x hx]
end
end Go.Proofs.Ytohenfbgjjifbaa
