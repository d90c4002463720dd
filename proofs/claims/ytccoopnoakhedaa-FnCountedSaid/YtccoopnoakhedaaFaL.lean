/- Plain: the errors of a kind that stay undetected, counted by states, are those of all checked words. Conditions: none. -/
import Derived.Test.YtccoopnoakhedaaUndG
import Derived.Test.YtccoopnoakhedaaDigA
import Derived.Test.YtccoopnoakhedaaTyD
import Derived.Test.YtccoopnoakhedaaFs1
import Derived.Test.YtccoopnoakhedaaSAt
namespace Go.Proofs.Ytccoopnoakhedaa
set_option maxRecDepth 100000
open Go.RowKit

/-! ### sums -/
def sumL {α : Type} (L : List α) (g : α → Int) : Int := (L.map g).sum
theorem sumL_nil {α : Type} (g : α → Int) : sumL [] g = 0 := rfl
theorem sumL_cons {α : Type} (a : α) (L : List α) (g : α → Int) : sumL (a :: L) g = g a + sumL L g := by simp [sumL]
theorem sumL_app {α : Type} (A B : List α) (g : α → Int) : sumL (A ++ B) g = sumL A g + sumL B g := by simp [sumL, List.sum_append]
theorem sumL_map {α β : Type} (f : α → β) (L : List α) (g : β → Int) : sumL (L.map f) g = sumL L fun a => g (f a) := by simp [sumL, Function.comp_def]
theorem sumL_congr {α : Type} {L : List α} {g h : α → Int} (he : ∀ a ∈ L, g a = h a) : sumL L g = sumL L h := by
  unfold sumL; rw [List.map_congr_left he]
theorem sumL_zero {α : Type} (L : List α) : sumL L (fun _ => 0) = 0 := by
  induction L with
  | nil => rfl
  | cons a L ih => rw [sumL_cons, ih]; rfl
theorem sumL_add {α : Type} (L : List α) (g h : α → Int) : sumL L (fun a => g a + h a) = sumL L g + sumL L h := by
  induction L with
  | nil => rfl
  | cons a L ih => rw [sumL_cons, sumL_cons, sumL_cons, ih]; omega
theorem sumL_mul {α : Type} (L : List α) (g : α → Int) (c : Int) : sumL L (fun a => c * g a) = c * sumL L g := by
  induction L with
  | nil => simp [sumL]
  | cons a L ih => rw [sumL_cons, sumL_cons, ih, Int.mul_add]
theorem sumL_const {α : Type} (L : List α) (c : Int) : sumL L (fun _ => c) = c * (L.length : Int) := by
  induction L with
  | nil => simp [sumL]
  | cons a L ih => rw [sumL_cons, ih, List.length_cons]; push_cast; rw [Int.mul_add]; omega
theorem sumL_flatMap {α β : Type} (f : α → List β) (L : List α) (g : β → Int) : sumL (L.flatMap f) g = sumL L fun a => sumL (f a) g := by
  induction L with
  | nil => rfl
  | cons a L ih => rw [List.flatMap_cons, sumL_app, sumL_cons, ih]
theorem sumL_flatten {β : Type} (L : List (List β)) (g : β → Int) : sumL L.flatten g = sumL L fun a => sumL a g := by
  induction L with
  | nil => rfl
  | cons a L ih => rw [List.flatten_cons, sumL_app, sumL_cons, ih]
theorem sumL_comm {α β : Type} (A : List α) (B : List β) (g : α → β → Int) : sumL A (fun a => sumL B fun b => g a b) = sumL B fun b => sumL A fun a => g a b := by
  induction A with
  | nil => rw [sumL_nil]; exact (sumL_zero B).symm
  | cons a A ih => rw [sumL_cons, ih, ← sumL_add]; exact sumL_congr fun b _ => (sumL_cons a A fun a => g a b).symm
theorem sumL_range (f : Nat → Int) : ∀ n, sumL (List.range n) f = sumN f n
  | 0 => rfl
  | n + 1 => by rw [List.range_succ, sumL_app, sumL_range f n, sumL_cons, sumL_nil]; simp [sumN]
theorem sumL_idx {α : Type} {L : List α} {d : α} {g : α → Int} : sumL L g = sumN (fun j => g (L.getD j d)) L.length := by
  rw [← sumL_range]
  unfold sumL
  congr 1
  apply List.ext_getElem
  · simp
  · intro i h1 h2
    rw [List.length_map] at h1
    simp [h1]
theorem sumN_add (f g : Nat → Int) (n : Nat) : sumN (fun k => f k + g k) n = sumN f n + sumN g n := by
  rw [← sumL_range, sumL_add, sumL_range, sumL_range]
theorem sumN_mul (f : Nat → Int) (c : Int) (n : Nat) : sumN (fun k => c * f k) n = c * sumN f n := by
  rw [← sumL_range, sumL_mul, sumL_range]
theorem sumN_comm (f : Nat → Nat → Int) (n m : Nat) : sumN (fun i => sumN (fun j => f i j) m) n = sumN (fun j => sumN (fun i => f i j) n) m := by
  rw [← sumL_range, ← sumL_range]
  have h := sumL_comm (List.range n) (List.range m) f
  refine Eq.trans (sumL_congr fun a _ => (sumL_range _ m).symm) (h.trans (sumL_congr fun b _ => sumL_range _ n))
theorem sumN_split (f : Nat → Int) (m : Nat) : ∀ b, sumN f (b * m) = sumN (fun d => sumN (fun t => f (d * m + t)) m) b
  | 0 => by simp [sumN]
  | b + 1 => by
    have h : ∀ k, sumN f (b * m + k) = sumN f (b * m) + sumN (fun t => f (b * m + t)) k := fun k => by
      induction k with
      | zero => simp [sumN]
      | succ k ih => rw [← Nat.add_assoc, sumN, ih, sumN]; omega
    rw [Nat.succ_mul, h m, sumN_split f m b, sumN]

/-! ### the numbers of beginnings -/
section
variable {D : Ch} {S bs : Nat}
def wSum (l : List Int) (S : Nat) (H : Int → Int) : Int := sumN (fun s => gi l s * H (s : Int)) S
theorem gi_setP {l : List Int} {i j : Nat} {v : Int} (hi : i < l.length) : gi (l.set i v) j = if j = i then v else gi l j := by
  unfold gi
  rw [List.getD_eq_getElem?_getD, List.getD_eq_getElem?_getD, List.getElem?_set]
  by_cases h : i = j
  · subst h; simp [hi]
  · rw [if_neg h, if_neg (fun h2 => h h2.symm)]
theorem sumN_pick (x : Int) (y : Nat) : ∀ n, sumN (fun s => if s = y then x else 0) n = if y < n then x else 0
  | 0 => by simp [sumN]
  | n + 1 => by
    rw [sumN, sumN_pick x y n]
    by_cases h1 : y < n
    · rw [if_pos h1, if_neg (by omega), if_pos (by omega)]; omega
    · by_cases h2 : n = y
      · rw [if_neg h1, if_pos h2, if_pos (by omega)]; omega
      · rw [if_neg h1, if_neg h2, if_neg (by omega)]; rfl
theorem wSum_set {l : List Int} {y : Nat} {v : Int} {H : Int → Int} (hl : l.length = S) (hy : y < S) : wSum (l.set y (gi l y + v)) S H = wSum l S H + v * H (y : Int) := by
  unfold wSum
  have h : ∀ s, gi (l.set y (gi l y + v)) s * H (s : Int) = gi l s * H (s : Int) + (if s = y then v * H (y : Int) else 0) := fun s => by
    rw [gi_setP (by omega)]
    by_cases he : s = y
    · subst he; rw [if_pos rfl, if_pos rfl, Int.add_mul]
    · rw [if_neg he, if_neg he, Int.add_zero]
  rw [sumN_congr S fun s _ => h s, sumN_add, sumN_pick, if_pos hy]
theorem wSum_begD (hok : OkCh D) (hS : D.states = (S : Int)) {k x : Nat} (hk : k < D.places.length) (hx : x < S) (v : Int) (H : Int → Int) : ∀ (d : Nat) (l : List Int), (d : Int) ≤ D.base → l.length = S →
    wSum (begD D k v x d l) S H = wSum l S H + v * sumN (fun e => H (nextS D k x (e : Int))) d
  | 0, l, _, _ => by simp [begD, sumN]
  | d + 1, l, hd, hl => by
    have hn := hok.next (p := k) (x := x) (d := d) (by omega) (by omega) (by omega) (by omega) (by omega) (by omega)
    rw [begD, wSum_set (by rw [begD_len]; exact hl) (by omega), wSum_begD hok hS hk hx v H d l (by omega) hl, sumN, Int.mul_add, Int.toNat_of_nonneg hn.1]
    omega
theorem wSum_zero (H : Int → Int) : wSum (List.replicate S 0) S H = 0 := by
  unfold wSum
  have h : ∀ s, s < S → gi (List.replicate S 0) s * H (s : Int) = 0 := fun s hs => by
    rw [gi_get (by simpa using hs)]; simp
  rw [sumN_congr S h]
  induction S with
  | zero => rfl
  | succ n ih => rw [sumN]; simp only [Int.add_zero]; exact (by
      have : ∀ m, sumN (fun _ => (0 : Int)) m = 0 := fun m => by
        induction m with
        | zero => rfl
        | succ m ih => rw [sumN, ih]; rfl
      exact this n)
theorem wSum_begR (hok : OkCh D) (hS : D.states = (S : Int)) (hbs : D.base = (bs : Int)) {k : Nat} (hk : k < D.places.length) (vs : List Int) (H : Int → Int) : ∀ x, x ≤ S →
    wSum (begR D k vs S x) S H = sumN (fun s => gi vs s * sumN (fun e => H (nextS D k (s : Int) (e : Int))) bs) x
  | 0, _ => by rw [begR, wSum_zero]; rfl
  | x + 1, hx => by
    have hb : D.base.toNat = bs := by omega
    rw [begR, wSum_begD hok hS hk (by omega) _ H _ _ (by omega) (begR_len _ _ _ _ _), wSum_begR hok hS hbs hk vs H x (by omega), sumN, hb]
theorem wSum_next (hok : OkCh D) (hS : D.states = (S : Int)) (hbs : D.base = (bs : Int)) {k : Nat} (hk : k < D.places.length) (H : Int → Int) :
    wSum (begL D S (k + 1)) S H = wSum (begL D S k) S fun s => sumN (fun e => H (nextS D k s (e : Int))) bs := wSum_begR hok hS hbs hk _ H S (Nat.le_refl _)
theorem wSum_start (hok : OkCh D) (hS : D.states = (S : Int)) (H : Int → Int) : wSum (begL D S 0) S H = H D.start := by
  obtain ⟨y, hy⟩ := Int.eq_ofNat_of_zero_le hok.st0
  have h1 := hok.st1
  have h2 : wSum ((List.replicate S 0).set y (gi (List.replicate S 0) y + 1)) S H = wSum (List.replicate S 0) S H + 1 * H (y : Int) := wSum_set (by simp) (by omega)
  have h3 : gi (List.replicate S 0) y = 0 := by rw [gi_get (by simp; omega)]; simp
  rw [h3, wSum_zero] at h2
  rw [begL, hy, Int.toNat_natCast]
  simpa using h2

/-! ### words, cut at a place -/
/-- a sum over the words from a place on, by their first symbol -/
theorem words_step (hbs : D.base = (bs : Int)) (f : Nat) (p x : Int) (G : List Int → Int) : sumL (wordsS D (f + 1) p x) G = sumN (fun d => sumL (wordsS D f (p + 1) (nextS D p x (d : Int))) fun v => G ((d : Int) :: v)) bs := by
  have hb : D.base.toNat = bs := by omega
  rw [wordsS, hb, sumL_flatMap, sumL_range]
  exact sumN_congr bs fun d _ => sumL_map _ _ _
/-- all checked words, by the state at a place -/
theorem words_at (hok : OkCh D) (hS : D.states = (S : Int)) (hbs : D.base = (bs : Int)) (G : Int → List Int → Int) : ∀ p, p ≤ D.places.length →
    sumL (wordsA D) (fun ds => G (runS D 0 D.start (ds.take p)) (ds.drop p)) = wSum (begL D S p) S fun s => sumL (wordsS D (D.places.length - p) (p : Int) s) (G s)
  | 0, _ => by
    rw [wSum_start hok hS]
    refine sumL_congr fun ds _ => ?_
    simp [runS]
  | p + 1, hp => by
    have ih := words_at hok hS hbs (fun s v => G (nextS D p s (gi v 0)) (v.drop 1)) p (by omega)
    rw [wSum_next hok hS hbs (by omega)]
    refine Eq.trans (sumL_congr fun ds hd => ?_) (ih.trans ?_)
    · have hl := (wordsA_mem hok hd).1
      have h1 : ds.drop (p + 1) = (ds.drop p).drop 1 := by rw [List.drop_drop]
      rw [runS_step D (by omega), h1]
      congr 2
      · omega
      · rw [gi_get (by omega), gi_get (by rw [List.length_drop]; omega)]; simp
    · unfold wSum
      refine sumN_congr S fun s _ => ?_
      congr 1
      obtain ⟨f, hf⟩ : ∃ f, D.places.length - p = f + 1 := ⟨D.places.length - p - 1, by omega⟩
      show sumL (wordsS D (D.places.length - p) (p : Int) (s : Int)) (fun v => G (nextS D p s (gi v 0)) (v.drop 1)) = sumN (fun e => sumL (wordsS D (D.places.length - (p + 1)) ((p + 1 : Nat) : Int) (nextS D p s (e : Int))) (G (nextS D p s (e : Int)))) bs
      rw [hf, words_step hbs, show D.places.length - (p + 1) = f by omega]
      refine sumN_congr bs fun d _ => ?_
      refine sumL_congr fun v _ => ?_
      simp [gi]
/-- words from a place on, by their first symbols -/
theorem words_tup (hbs : D.base = (bs : Int)) (f : Nat) : ∀ (r : Nat) (p x : Int) (G : List Int → Int),
    sumL (wordsS D (r + f) p x) G = sumN (fun t => sumL (wordsS D f (p + r) (runS D p x (tupAt bs r t))) fun v => G (tupAt bs r t ++ v)) (bs ^ r)
  | 0, p, x, G => by simp [sumN, tupAt, runS]
  | r + 1, p, x, G => by
    rw [show r + 1 + f = (r + f) + 1 by omega, words_step hbs, Nat.pow_succ, Nat.mul_comm (bs ^ r) bs, sumN_split]
    refine sumN_congr bs fun d _ => ?_
    rw [words_tup hbs f r]
    refine sumN_congr (bs ^ r) fun t ht => ?_
    have hp : 0 < bs ^ r := by omega
    have e1 : (d * bs ^ r + t) / bs ^ r = d := by rw [Nat.mul_comm, Nat.mul_add_div hp, Nat.div_eq_of_lt ht]; omega
    have e2 : (d * bs ^ r + t) % bs ^ r = t := by rw [Nat.mul_comm, Nat.mul_add_mod, Nat.mod_eq_of_lt ht]
    have e3 : tupAt bs (r + 1) (d * bs ^ r + t) = (d : Int) :: tupAt bs r t := by simp only [tupAt, e1, e2]
    rw [e3]
    simp only [runS, List.cons_append]
    congr 2
    push_cast
    omega
/-- how many words from a place on lead two states to the end -/
theorem words_both (hok : OkCh D) (hbs : D.base = (bs : Int)) : ∀ (f : Nat) (x y : Int), f ≤ D.places.length →
    sumL (wordsS D f ((D.places.length - f : Nat) : Int) x) (fun v => if runS D ((D.places.length - f : Nat) : Int) y v = D.fin then 1 else 0) = bothS D D.places.length f x y
  | 0, x, y, _ => by
    unfold bothS wordsS
    by_cases h1 : x = D.fin
    · by_cases h2 : y = D.fin
      · simp [h1, h2, sumL, runS]
      · simp [h1, h2, sumL, runS]
    · simp [h1, sumL]
  | f + 1, x, y, hf => by
    have hb : D.base.toNat = bs := by omega
    have hpp : ((D.places.length - (f + 1) : Nat) : Int) + 1 = ((D.places.length - f : Nat) : Int) := by omega
    rw [words_step hbs, bothS, hb]
    have h2 : ∀ g : Nat → Int, ((List.range bs).map g).sum = sumN g bs := fun g => sumL_range g bs
    rw [h2]
    refine sumN_congr bs fun d _ => ?_
    rw [← words_both hok hbs f _ _ (by omega), hpp]
    refine sumL_congr fun v _ => ?_
    simp only [runS, hpp]
/-- the words from a place on lead to the end -/
theorem words_run (hok : OkCh D) : ∀ (f : Nat) (p x : Int) (v : List Int), v ∈ wordsS D f p x → runS D p x v = D.fin
  | 0, p, x, v, h => by
    unfold wordsS at h
    split at h
    · simp at h; subst h; simpa [runS]
    · simp at h
  | f + 1, p, x, v, h => by
    unfold wordsS at h
    obtain ⟨d, _, h2⟩ := List.mem_flatMap.1 h
    obtain ⟨u, hu, rfl⟩ := List.mem_map.1 h2
    exact words_run hok f _ _ u hu
end
end Go.Proofs.Ytccoopnoakhedaa

/- Plain: the errors of a kind, counted by states, are those of all checked words, word by word. Conditions: none. -/
namespace Go.Proofs.Ytccoopnoakhedaa
set_option maxRecDepth 100000
open Go.RowKit

section
variable {D : Ch} {S bs : Nat}
theorem runS_app (D : Ch) : ∀ (a b : List Int) (p x : Int), runS D p x (a ++ b) = runS D (p + a.length) (runS D p x a) b
  | [], b, p, x => by simp [runS]
  | d :: a, b, p, x => by
    rw [List.cons_append, runS, runS_app D a b, runS, List.length_cons]
    congr 1
    push_cast
    omega
/-- one kind of errors at one place, word by word -/
theorem bad_words (hok : OkCh D) (hS : D.states = (S : Int)) (hbs : D.base = (bs : Int)) {k pl : Nat} (h5 : k ≤ 4 ∨ 10 ≤ bs) (hp : pl + lenK k ≤ D.places.length) (b : Bool) :
    sumL (wordsA D) (fun ds => sumL (chgL k bs ((ds.drop pl).take (lenK k))) fun t => if runS D (pl : Int) (runS D 0 D.start (ds.take pl)) ((if b then t else (ds.drop pl).take (lenK k)) ++ (ds.drop pl).drop (lenK k)) = D.fin then 1 else 0)
      = badP D S D.places.length k bs pl b := by
  have hb := hok.b2
  rw [words_at hok hS hbs (fun s v => sumL (chgL k bs (v.take (lenK k))) fun t => if runS D (pl : Int) s ((if b then t else v.take (lenK k)) ++ v.drop (lenK k)) = D.fin then 1 else 0) pl (by omega)]
  obtain ⟨f, hf⟩ : ∃ f, D.places.length = pl + lenK k + f := ⟨D.places.length - (pl + lenK k), by omega⟩
  have hf2 : D.places.length - pl = lenK k + f := by omega
  have hf3 : D.places.length - f = pl + lenK k := by omega
  have hin : ∀ s : Nat, s < S → sumL (wordsS D (D.places.length - pl) (pl : Int) (s : Int)) (fun v => sumL (chgL k bs (v.take (lenK k))) fun t => if runS D (pl : Int) (s : Int) ((if b then t else v.take (lenK k)) ++ v.drop (lenK k)) = D.fin then 1 else 0)
      = sumN (fun t => sumN (fun j => bothS D D.places.length f (runS D pl s (tupAt bs (lenK k) t)) (runS D pl s (if b then gl (chgL k bs (tupAt bs (lenK k) t)) j else tupAt bs (lenK k) t))) (chgL k bs (tupAt bs (lenK k) t)).length) (bs ^ lenK k) := fun s hs => by
    rw [hf2, words_tup hbs f]
    refine sumN_congr _ fun t ht => ?_
    have hl := tupAt_len bs (lenK k) t
    generalize tupAt bs (lenK k) t = ff at *
    have h1 : ∀ v : List Int, (ff ++ v).take (lenK k) = ff := fun v => by rw [← hl]; simp
    have h2 : ∀ v : List Int, (ff ++ v).drop (lenK k) = v := fun v => by rw [← hl]; simp
    have h3 : ∀ u : List Int, u.length = lenK k → ∀ v, runS D (pl : Int) (s : Int) (u ++ v) = runS D ((pl : Int) + (lenK k : Int)) (runS D (pl : Int) (s : Int) u) v := fun u hu v => by rw [runS_app, hu]
    simp only [h1, h2]
    rw [sumL_comm, sumL_idx (d := [])]
    refine sumN_congr _ fun j hj => ?_
    have hu : (if b then gl (chgL k bs ff) j else ff).length = lenK k := by
      cases b
      · exact hl
      · exact chgL_len hl (gl_mem hj)
    rw [← words_both hok hbs f _ _ (by omega), hf3]
    push_cast
    refine sumL_congr fun v _ => ?_
    have h4 := h3 _ hu v
    have h5 : (if b then (chgL k bs ff).getD j [] else ff) = (if b then gl (chgL k bs ff) j else ff) := rfl
    rw [h5, h4]
  unfold wSum
  refine (sumN_congr S fun s hs => congrArg (fun z => gi (begL D S pl) s * z) (hin s hs)).trans ?_
  unfold badP tT tJ tS bothF
  have hr : ∀ (ff : List Int), (∀ x ∈ ff, 0 ≤ x ∧ x < (bs : Int)) → ff.length = lenK k → ∀ s : Nat, s < S → 0 ≤ runS D (pl : Int) (s : Int) ff := fun ff hd hl s hs =>
    (runS_bd hok ff (pl : Int) (s : Int) (fun x hx => by have := hd x hx; omega) (by omega) (by rw [hl]; omega) (by omega) (by omega)).1
  have e1 : ∀ s, s < S → gi (begL D S pl) s * sumN (fun t => sumN (fun j => bothS D D.places.length f (runS D pl s (tupAt bs (lenK k) t)) (runS D pl s (if b then gl (chgL k bs (tupAt bs (lenK k) t)) j else tupAt bs (lenK k) t))) (chgL k bs (tupAt bs (lenK k) t)).length) (bs ^ lenK k)
      = sumN (fun t => sumN (fun j => gi (begL D S pl) s * bothS D D.places.length f (runS D pl s (tupAt bs (lenK k) t)) (runS D pl s (if b then gl (chgL k bs (tupAt bs (lenK k) t)) j else tupAt bs (lenK k) t))) (chgL k bs (tupAt bs (lenK k) t)).length) (bs ^ lenK k) := fun s _ => by
    rw [← sumN_mul]
    refine sumN_congr _ fun t _ => ?_
    rw [← sumN_mul]
  rw [sumN_congr S e1, sumN_comm]
  refine sumN_congr _ fun t ht => ?_
  rw [sumN_comm]
  refine sumN_congr _ fun j hj => ?_
  refine sumN_congr _ fun s hs => ?_
  have hd := tupAt_bd (m := bs) (by omega) ht
  have hl := tupAt_len bs (lenK k) t
  have g1 := hr _ hd hl s hs
  have g2 : 0 ≤ runS D (pl : Int) (s : Int) (if b then gl (chgL k bs (tupAt bs (lenK k) t)) j else tupAt bs (lenK k) t) := by
    cases b
    · exact g1
    · exact hr _ (chg_dig hd hl h5 (gl_mem hj)) (chgL_len hl (gl_mem hj)) s hs
  rw [Int.toNat_of_nonneg g1, Int.toNat_of_nonneg g2, show D.places.length - (pl + lenK k) = f by omega]
theorem sumN_L {f : Nat → List Int → Int} {L : List (List Int)} (m : Nat) : sumN (fun pl => sumL L (f pl)) m = sumL L fun ds => sumN (fun pl => f pl ds) m := by
  rw [← sumL_range, sumL_comm]
  exact sumL_congr fun ds _ => sumL_range _ m
theorem wrong_sum {k : Nat} {ds : List Int} (g : List Int → Int) (m : Nat) : sumL (wrongN k bs ds m) g = sumN (fun pl => sumL (chgL k bs ((ds.drop pl).take (lenK k))) fun t => g (ds.take pl ++ t ++ ds.drop (pl + lenK k))) m := by
  unfold wrongN
  rw [sumL_flatten, sumL_map, sumL_range]
  exact sumN_congr m fun pl _ => by unfold wrongR; exact sumL_map _ _ _
theorem bad_true (hok : OkCh D) (hS : D.states = (S : Int)) (hbs : D.base = (bs : Int)) {k : Nat} (h5 : k ≤ 4 ∨ 10 ≤ bs) :
    badN D S D.places.length k bs true (D.places.length + 1 - lenK k) = sumL (wordsA D) fun ds => sumL (wrongL k bs ds) fun u => if chkD D u = true then 1 else 0 := by
  unfold badN
  have hk1 : 1 ≤ lenK k := by unfold lenK; split <;> (try split) <;> omega
  rw [sumN_congr _ fun pl hpl => (bad_words hok hS hbs h5 (show pl + lenK k ≤ D.places.length by omega) true).symm, sumN_L]
  refine sumL_congr fun ds hd => ?_
  have hl := (wordsA_mem hok hd).1
  unfold wrongL
  rw [wrong_sum, hl]
  refine sumN_congr _ fun pl hpl => ?_
  refine sumL_congr fun t _ => ?_
  have e : runS D (pl : Int) (runS D 0 D.start (ds.take pl)) (t ++ (ds.drop pl).drop (lenK k)) = runS D 0 D.start (ds.take pl ++ t ++ ds.drop (pl + lenK k)) := by
    rw [List.append_assoc, runS_app D (ds.take pl), List.length_take, Nat.min_eq_left (by omega), Int.zero_add, List.drop_drop]
  simp only [if_pos]
  unfold chkD
  rw [e]
  simp
theorem bad_false (hok : OkCh D) (hS : D.states = (S : Int)) (hbs : D.base = (bs : Int)) {k : Nat} (h5 : k ≤ 4 ∨ 10 ≤ bs) :
    badN D S D.places.length k bs false (D.places.length + 1 - lenK k) = sumL (wordsA D) fun ds => ((wrongL k bs ds).length : Int) := by
  unfold badN
  have hk1 : 1 ≤ lenK k := by unfold lenK; split <;> (try split) <;> omega
  rw [sumN_congr _ fun pl hpl => (bad_words hok hS hbs h5 (show pl + lenK k ≤ D.places.length by omega) false).symm, sumN_L]
  refine sumL_congr fun ds hd => ?_
  have hl := (wordsA_mem hok hd).1
  have hrun := words_run hok _ _ _ ds hd
  have h1 : ((wrongL k bs ds).length : Int) = sumL (wrongL k bs ds) fun _ => 1 := by rw [sumL_const]; omega
  rw [h1]
  unfold wrongL
  rw [wrong_sum, hl]
  refine sumN_congr _ fun pl hpl => ?_
  refine sumL_congr fun t _ => ?_
  have e : runS D (pl : Int) (runS D 0 D.start (ds.take pl)) ((ds.drop pl).take (lenK k) ++ (ds.drop pl).drop (lenK k)) = D.fin := by
    rw [List.take_append_drop]
    have h2 := runS_app D (ds.take pl) (ds.drop pl) 0 D.start
    rw [List.take_append_drop, List.length_take, Nat.min_eq_left (by omega), Int.zero_add] at h2
    rw [← h2, hrun]
  simp only [Bool.false_eq_true, if_false]
  rw [e, if_pos rfl]
end

/-! ### each wrong word once -/
theorem eachTo_nodup {x0 : Int} {mk : Int → List Int} {b : Nat} (hi : ∀ x y, mk x = mk y → x = y) : (eachTo x0 mk b).Nodup := by
  unfold eachTo
  refine List.Pairwise.map _ (R := (· ≠ ·)) (fun a b hab h => hab ?_) (List.Pairwise.filter _ List.nodup_range)
  have := hi _ _ h
  omega
theorem two_of {l : List Int} (h : l.length = 2) : ∃ x y, l = [x, y] := match l, h with | [x, y], _ => ⟨x, y, rfl⟩
theorem three_of {l : List Int} (h : l.length = 3) : ∃ x y z, l = [x, y, z] := match l, h with | [x, y, z], _ => ⟨x, y, z, rfl⟩
theorem one_of {l : List Int} (h : l.length = 1) : ∃ x, l = [x] := match l, h with | [x], _ => ⟨x, rfl⟩
theorem ends_inj {f : List Int} (h1 : 1 ≤ f.length) {x y : Int} (h : endsTo f x x = endsTo f y y) : x = y := by
  have h2 := congrArg (fun l => gi l (f.length - 1)) h
  simp only [endsTo] at h2
  rw [gi_get (by simp; omega), gi_get (by simp; omega)] at h2
  simpa using h2
theorem chg_nodup {k base : Nat} {f : List Int} (hl : f.length = lenK k) : (chgL k base f).Nodup := by
  have hk1 : 1 ≤ lenK k := by unfold lenK; split <;> (try split) <;> omega
  unfold chgL
  split
  · exact eachTo_nodup fun x y h => by injection h
  split
  · split
    · exact List.nodup_nil
    · simp
  split
  · split
    · exact eachTo_nodup fun x y h => ends_inj (by omega) h
    · exact List.nodup_nil
  split
  · simp
  split
  · simp
  · exact List.nodup_nil
/-- an error changes the first symbol -/
theorem chg_first {k base : Nat} {f t : List Int} (hl : f.length = lenK k) (h : t ∈ chgL k base f) : gi t 0 ≠ gi f 0 := by
  have hk1 : 1 ≤ lenK k := by unfold lenK; split <;> (try split) <;> omega
  unfold chgL at h
  split at h
  · obtain ⟨z, h1, rfl⟩ := List.mem_map.1 h
    rw [List.mem_filter] at h1
    simpa [gi] using h1.2
  rename_i hk0
  have hk2 : 2 ≤ lenK k := by unfold lenK; rw [if_neg hk0]; split <;> omega
  have he : ∀ x y : Int, gi (endsTo f x y) 0 = x := fun x y => by
    unfold endsTo
    rw [gi_get (by simp; omega), List.getElem_set_ne (by omega)]
    simp
  split at h
  · split at h
    · simp at h
    · rename_i hne
      obtain rfl := List.mem_singleton.1 h
      rw [he]
      exact fun h2 => hne h2.symm
  split at h
  · split at h
    · obtain ⟨z, h1, rfl⟩ := List.mem_map.1 h
      rw [List.mem_filter] at h1
      rw [he]
      simpa using h1.2
    · simp at h
  split at h
  · rename_i h3
    obtain rfl := List.mem_singleton.1 h
    show (1 : Int) ≠ gi f 0
    omega
  split at h
  · rename_i h3
    obtain rfl := List.mem_singleton.1 h
    show gi f 1 ≠ gi f 0
    omega
  · simp at h
theorem wrongR_first {k base : Nat} {ds u : List Int} {pl : Nat} (hp : pl + lenK k ≤ ds.length) (h : u ∈ wrongR k base ds pl) : (∀ i, i < pl → gi u i = gi ds i) ∧ gi u pl ≠ gi ds pl := by
  have hk1 : 1 ≤ lenK k := by unfold lenK; split <;> (try split) <;> omega
  unfold wrongR at h
  obtain ⟨t, ht, rfl⟩ := List.mem_map.1 h
  have hfl : ((ds.drop pl).take (lenK k)).length = lenK k := by rw [List.length_take, List.length_drop]; omega
  have h1 := chg_first hfl ht
  have hl := chgL_len hfl ht
  have htl : (ds.take pl).length = pl := by rw [List.length_take]; omega
  have e1 : ∀ i, i < pl → gi (ds.take pl ++ t ++ ds.drop (pl + lenK k)) i = gi ds i := fun i hi => by
    unfold gi
    rw [List.append_assoc, List.getD_eq_getElem?_getD, List.getD_eq_getElem?_getD, List.getElem?_append_left (by omega), List.getElem?_take_of_lt hi]
  have e2 : gi (ds.take pl ++ t ++ ds.drop (pl + lenK k)) pl = gi t 0 := by
    unfold gi
    rw [List.append_assoc, List.getD_eq_getElem?_getD, List.getD_eq_getElem?_getD, List.getElem?_append_right (by omega), List.getElem?_append_left (by omega), htl, Nat.sub_self]
  have e3 : gi ((ds.drop pl).take (lenK k)) 0 = gi ds pl := by
    rw [gi_get (by omega), gi_get (by omega)]; simp
  exact ⟨e1, by rw [e2, ← e3]; exact h1⟩
theorem wrongN_nodup {k base : Nat} {ds : List Int} : ∀ m, m + lenK k ≤ ds.length + 1 → (wrongN k base ds m).Nodup
  | 0, _ => by simp [wrongN]
  | m + 1, hm => by
    have hk1 : 1 ≤ lenK k := by unfold lenK; split <;> (try split) <;> omega
    rw [wrongN_step, List.nodup_append]
    refine ⟨wrongN_nodup m (by omega), ?_, fun u hu v hv he => ?_⟩
    · unfold wrongR
      have hfl : ((ds.drop m).take (lenK k)).length = lenK k := by rw [List.length_take, List.length_drop]; omega
      refine List.Pairwise.map _ (R := (· ≠ ·)) (fun a b hab h => hab ?_) (chg_nodup (base := base) hfl)
      rw [List.append_assoc, List.append_assoc] at h
      exact List.append_cancel_right (List.append_cancel_left h)
    · subst he
      have h2 := wrongR_first (by omega) hv
      unfold wrongN at hu
      obtain ⟨l, hl, hul⟩ := List.mem_flatten.1 hu
      obtain ⟨pl, hp, rfl⟩ := List.mem_map.1 hl
      have hp2 := List.mem_range.1 hp
      have h1 := wrongR_first (by omega) hul
      exact h1.2 (h2.1 pl hp2)
theorem wrongL_nodup (k base : Nat) (ds : List Int) : (wrongL k base ds).Nodup := by
  unfold wrongL
  by_cases h : lenK k ≤ ds.length + 1
  · exact wrongN_nodup _ (by omega)
  · rw [show ds.length + 1 - lenK k = 0 by omega]; simp [wrongN]
theorem sumL_perm {α : Type} {A B : List α} (h : A.Perm B) (g : α → Int) : sumL A g = sumL B g := by
  induction h with
  | nil => rfl
  | cons a _ ih => rw [sumL_cons, sumL_cons, ih]
  | swap a b l => rw [sumL_cons, sumL_cons, sumL_cons, sumL_cons]; omega
  | trans _ _ h1 h2 => rw [h1, h2]
end Go.Proofs.Ytccoopnoakhedaa

/- Plain: the least word with an undetected error at a place: what the program builds. Conditions: none. -/
namespace Go.Proofs.Ytccoopnoakhedaa
set_option maxRecDepth 100000
open Go.RowKit

/-- the first number below n with a property; n without one -/
def fstI (P : Nat → Bool) (n : Nat) : Nat := (List.range n).findIdx P
theorem fstI_le (P : Nat → Bool) (n : Nat) : fstI P n ≤ n := by
  have := List.findIdx_le_length (xs := List.range n) (p := P); simpa [fstI] using this
theorem fstI_not {P : Nat → Bool} {n j : Nat} (h : j < fstI P n) : P j = false := by
  have h1 := List.not_of_lt_findIdx (xs := List.range n) (p := P) h
  simpa using h1
theorem fstI_lt {P : Nat → Bool} {n : Nat} (h : (List.range n).any P = true) : fstI P n < n ∧ P (fstI P n) = true := by
  obtain ⟨x, hx, hp⟩ := List.any_eq_true.1 h
  have h1 : (List.range n).findIdx P < (List.range n).length := List.findIdx_lt_length_of_exists ⟨x, hx, hp⟩
  have h2 := List.findIdx_getElem (xs := List.range n) (p := P) (w := h1)
  rw [List.getElem_range] at h2
  rw [List.length_range] at h1
  exact ⟨h1, h2⟩
theorem fstI_eq {P : Nat → Bool} {n j : Nat} (hj : j < n) (h1 : P j = true) (h2 : ∀ i, i < j → P i = false) : fstI P n = j := by
  have h3 : (List.range n).any P = true := List.any_eq_true.2 ⟨j, List.mem_range.2 hj, h1⟩
  obtain ⟨h4, h5⟩ := fstI_lt h3
  rcases Nat.lt_trichotomy (fstI P n) j with h | h | h
  · rw [h2 _ h] at h5; cases h5
  · exact h
  · rw [fstI_not h] at h1; cases h1
section
variable (D : Ch) (n' pl r k bs : Nat)
/-- can a state, m places ahead of the place, lead to an undetected error there -/
def canB : Nat → Int → Bool
  | 0, s => (List.range (bs ^ r)).any fun t => hasU D n' pl r s.toNat k bs (tupAt bs r t)
  | m + 1, s => (List.range bs).any fun d => canB m (nextS D ((pl - (m + 1) : Nat) : Int) s (d : Int))
/-- the first symbols -/
def preS : Nat → List Int
  | 0 => []
  | i + 1 => preS i ++ [((fstI (fun d => canB D n' pl r k bs (pl - (i + 1)) (nextS D (i : Int) (runS D 0 D.start (preS i)) (d : Int))) bs : Nat) : Int)]
/-- does an error stay undetected when some symbols follow -/
def posV (s : Nat) (f t v : List Int) : Bool := decide (0 < bothS D n' (n' - (pl + r + v.length)) (runS D pl s (f ++ v)) (runS D pl s (t ++ v)))
def anyV (s : Nat) (f v : List Int) : Bool := (chgL k bs f).any fun t => posV D n' pl r s f t v
/-- the symbols behind the error -/
def finS (s : Nat) (f : List Int) : Nat → List Int
  | 0 => []
  | i + 1 => finS s f i ++ [((fstI (fun d => anyV D n' pl r k bs s f (finS s f i ++ [(d : Int)])) bs : Nat) : Int)]
end
/-- the word that the program builds -/
def leastU (D : Ch) (n' pl r k bs : Nat) : List Int :=
  let s := (runS D 0 D.start (preS D n' pl r k bs pl)).toNat
  let f := tupAt bs r (fstI (fun t => hasU D n' pl r s k bs (tupAt bs r t)) (bs ^ r))
  preS D n' pl r k bs pl ++ f ++ finS D n' pl r k bs s f (n' - (pl + r))
theorem anyV_nil (D : Ch) (n' pl r k bs s : Nat) (f : List Int) : anyV D n' pl r k bs s f [] = hasU D n' pl r s k bs f := by
  unfold anyV hasU posV posU
  simp
theorem preS_len (D : Ch) (n' pl r k bs : Nat) : ∀ i, (preS D n' pl r k bs i).length = i
  | 0 => rfl
  | i + 1 => by rw [preS, List.length_append, preS_len D n' pl r k bs i]; rfl
theorem finS_len (D : Ch) (n' pl r k bs s : Nat) (f : List Int) : ∀ i, (finS D n' pl r k bs s f i).length = i
  | 0 => rfl
  | i + 1 => by rw [finS, List.length_append, finS_len D n' pl r k bs s f i]; rfl
theorem canB_pre {D : Ch} {n' pl r k bs : Nat} (h0 : canB D n' pl r k bs pl D.start = true) : ∀ i, i ≤ pl → canB D n' pl r k bs (pl - i) (runS D 0 D.start (preS D n' pl r k bs i)) = true
  | 0, _ => h0
  | i + 1, hi => by
    have ih := canB_pre h0 i (by omega)
    obtain ⟨m, hm⟩ : ∃ m, pl - i = m + 1 := ⟨pl - (i + 1), by omega⟩
    have hm2 : pl - (i + 1) = m := by omega
    rw [hm, canB] at ih
    have hpi : pl - (m + 1) = i := by omega
    rw [hpi] at ih
    have h2 := fstI_lt ih
    rw [preS, runS_app, runS, runS, hm2, Int.zero_add, preS_len]
    exact h2.2
theorem preS_bd {D : Ch} {n' pl r k bs : Nat} (h0 : canB D n' pl r k bs pl D.start = true) : ∀ i, i ≤ pl → ∀ d ∈ preS D n' pl r k bs i, 0 ≤ d ∧ d < (bs : Int)
  | 0, _ => by intro d hd; simp [preS] at hd
  | i + 1, hi => by
    have ih := canB_pre h0 i (by omega)
    obtain ⟨m, hm⟩ : ∃ m, pl - i = m + 1 := ⟨pl - (i + 1), by omega⟩
    have hm2 : pl - (i + 1) = m := by omega
    rw [hm, canB] at ih
    have hpi : pl - (m + 1) = i := by omega
    rw [hpi] at ih
    have h2 := fstI_lt ih
    intro d hd
    rw [preS, hm2] at hd
    rcases List.mem_append.1 hd with hd | hd
    · exact preS_bd h0 i (by omega) d hd
    · rw [List.mem_singleton] at hd; subst hd
      exact ⟨by omega, by have := h2.1; omega⟩
end Go.Proofs.Ytccoopnoakhedaa

/- Plain: the pairs of states behind an undetected error. Conditions: none. -/
namespace Go.Proofs.Ytccoopnoakhedaa
set_option maxRecDepth 100000
open Go.RowKit

section
variable {D : Ch} {n' pl r k bs s : Nat} {f : List Int}
/-- L holds the pairs of states that some symbols lead to -/
def LOk (D : Ch) (n' pl r k bs s : Nat) (f v : List Int) (L : List (Int × Int)) : Prop :=
  ∀ p, p ∈ L ↔ ∃ t ∈ chgL k bs f, posV D n' pl r s f t v = true ∧ p = (runS D pl s (f ++ v), runS D pl s (t ++ v))
theorem LOk.any {v : List Int} {L : List (Int × Int)} (h : LOk D n' pl r k bs s f v L) : anyV D n' pl r k bs s f v = true ↔ L ≠ [] := by
  unfold anyV
  rw [List.any_eq_true]
  constructor
  · rintro ⟨t, ht, hp⟩ rfl
    have := (h _).2 ⟨t, ht, hp, rfl⟩
    simp at this
  · intro hne
    obtain ⟨p, hp⟩ := List.exists_mem_of_ne_nil L hne
    obtain ⟨t, ht, h1, _⟩ := (h p).1 hp
    exact ⟨t, ht, h1⟩
/-- the list that the changes build -/
def LJ (D : Ch) (n' pl r k bs s : Nat) (f : List Int) (j : Nat) : List (Int × Int) := ((((chgL k bs f).take j).filter fun t => posU D n' pl r s f t).reverse).map fun t => (runS D pl s f, runS D pl s t)
theorem LJ_step {j : Nat} (h : j < (chgL k bs f).length) : LJ D n' pl r k bs s f (j + 1) = if posU D n' pl r s f (gl (chgL k bs f) j) = true then (runS D pl s f, runS D pl s (gl (chgL k bs f) j)) :: LJ D n' pl r k bs s f j else LJ D n' pl r k bs s f j := by
  unfold LJ
  rw [take_gl h, List.filter_append, List.reverse_append, List.map_append]
  cases hp : posU D n' pl r s f (gl (chgL k bs f) j) <;> simp [hp]
theorem LJ_le {j : Nat} : (LJ D n' pl r k bs s f j).length ≤ bs + 1 := by
  unfold LJ
  rw [List.length_map, List.length_reverse]
  have h1 := List.length_filter_le (fun t => posU D n' pl r s f t) ((chgL k bs f).take j)
  have h2 := chgL_le k bs f
  have h3 : ((chgL k bs f).take j).length ≤ (chgL k bs f).length := by rw [List.length_take]; omega
  omega
theorem LJ_ok : LOk D n' pl r k bs s f [] (LJ D n' pl r k bs s f (chgL k bs f).length) := by
  intro p
  unfold LJ
  rw [List.take_length, List.mem_map]
  have he : ∀ t, posV D n' pl r s f t [] = posU D n' pl r s f t := fun t => by unfold posV posU; simp
  constructor
  · rintro ⟨t, ht, rfl⟩
    rw [List.mem_reverse, List.mem_filter] at ht
    exact ⟨t, ht.1, by rw [he]; exact ht.2, by simp⟩
  · rintro ⟨t, ht, h1, rfl⟩
    exact ⟨t, by rw [List.mem_reverse, List.mem_filter]; exact ⟨ht, by rw [← he]; exact h1⟩, by simp⟩
theorem bothS_step_pos {x y : Int} {m d : Nat} (hbs : D.base = (bs : Int)) (hd : d < bs) (h : 0 < bothS D n' m (nextS D ((n' - (m + 1) : Nat) : Int) x (d : Int)) (nextS D ((n' - (m + 1) : Nat) : Int) y (d : Int))) : 0 < bothS D n' (m + 1) x y := by
  have hb : D.base.toNat = bs := by omega
  have hmono : ∀ e, 0 ≤ partB D n' m x y e ∧ (d < e → 0 < partB D n' m x y e) := by
    intro e
    induction e with
    | zero => exact ⟨Int.le_refl _, fun h => by omega⟩
    | succ e ih =>
      have hn := (bothS_bd (D := D) (by omega) n' m (nextS D ((n' - (m + 1) : Nat) : Int) x (e : Int)) (nextS D ((n' - (m + 1) : Nat) : Int) y (e : Int))).1
      rw [partB_succ]
      refine ⟨by omega, fun hde => ?_⟩
      by_cases he : d < e
      · have := ih.2 he; omega
      · obtain rfl : d = e := by omega
        omega
  have h1 := (hmono bs).2 hd
  unfold bothS
  rw [hb]
  exact h1
/-- one symbol more -/
theorem LOk.step {v : List Int} {L A : List (Int × Int)} {d : Nat} (h : LOk D n' pl r k bs s f v L) (hbs : D.base = (bs : Int)) (hd : d < bs) (hf : f.length = r) (hk : ∀ t ∈ chgL k bs f, t.length = r) (hlt : pl + r + v.length < n')
    (hA : ∀ p, p ∈ A ↔ ∃ q ∈ L, p = (nextS D ((pl + r + v.length : Nat) : Int) q.1 (d : Int), nextS D ((pl + r + v.length : Nat) : Int) q.2 (d : Int)) ∧ 0 < bothS D n' (n' - (pl + r + v.length + 1)) p.1 p.2) : LOk D n' pl r k bs s f (v ++ [(d : Int)]) A := by
  have hrun : ∀ u : List Int, u.length = r → runS D (pl : Int) (s : Int) (u ++ (v ++ [(d : Int)])) = nextS D ((pl + r + v.length : Nat) : Int) (runS D (pl : Int) (s : Int) (u ++ v)) (d : Int) := fun u hu => by
    rw [← List.append_assoc, runS_app, runS, runS, List.length_append, hu]
    congr 1
    push_cast
    omega
  have hl : pl + r + (v ++ [(d : Int)]).length = pl + r + v.length + 1 := by rw [List.length_append]; rfl
  intro p
  rw [hA]
  constructor
  · rintro ⟨q, hq, rfl, hpos⟩
    obtain ⟨t, ht, h1, rfl⟩ := (h q).1 hq
    refine ⟨t, ht, ?_, by rw [hrun f hf, hrun t (hk t ht)]⟩
    unfold posV
    rw [hl, hrun f hf, hrun t (hk t ht)]
    exact decide_eq_true hpos
  · rintro ⟨t, ht, h1, rfl⟩
    unfold posV at h1
    rw [hl, hrun f hf, hrun t (hk t ht)] at h1
    have h2 := of_decide_eq_true h1
    refine ⟨(runS D pl s (f ++ v), runS D pl s (t ++ v)), (h _).2 ⟨t, ht, ?_, rfl⟩, by rw [hrun f hf, hrun t (hk t ht)], by rw [hrun f hf, hrun t (hk t ht)]; exact h2⟩
    unfold posV
    obtain ⟨m, hm⟩ : ∃ m, n' - (pl + r + v.length) = m + 1 := ⟨n' - (pl + r + v.length + 1), by omega⟩
    rw [hm]
    have hm2 : n' - (pl + r + v.length + 1) = m := by omega
    have hm3 : n' - (m + 1) = pl + r + v.length := by omega
    rw [hm2] at h2
    exact decide_eq_true (bothS_step_pos hbs hd (by rw [hm3]; exact h2))
theorem bothS_ex {x y : Int} {m : Nat} (hbs : D.base = (bs : Int)) (h : 0 < bothS D n' (m + 1) x y) : ∃ d, d < bs ∧ 0 < bothS D n' m (nextS D ((n' - (m + 1) : Nat) : Int) x (d : Int)) (nextS D ((n' - (m + 1) : Nat) : Int) y (d : Int)) := by
  have hb : D.base.toNat = bs := by omega
  unfold bothS at h
  rw [hb] at h
  have hex : ∀ e, 0 < partB D n' m x y e → ∃ d, d < e ∧ 0 < bothS D n' m (nextS D ((n' - (m + 1) : Nat) : Int) x (d : Int)) (nextS D ((n' - (m + 1) : Nat) : Int) y (d : Int)) := by
    intro e
    induction e with
    | zero => intro h; rw [partB_zero] at h; omega
    | succ e ih =>
      intro h
      rw [partB_succ] at h
      by_cases he : 0 < partB D n' m x y e
      · obtain ⟨d, h1, h2⟩ := ih he
        exact ⟨d, by omega, h2⟩
      · exact ⟨e, by omega, by omega⟩
  exact hex bs h
theorem anyV_next {v : List Int} (hbs : D.base = (bs : Int)) (hf : f.length = r) (hk : ∀ t ∈ chgL k bs f, t.length = r) (hlt : pl + r + v.length < n') (h : anyV D n' pl r k bs s f v = true) : (List.range bs).any (fun d => anyV D n' pl r k bs s f (v ++ [(d : Int)])) = true := by
  have hrun : ∀ (d : Nat) (u : List Int), u.length = r → runS D (pl : Int) (s : Int) (u ++ (v ++ [(d : Int)])) = nextS D ((pl + r + v.length : Nat) : Int) (runS D (pl : Int) (s : Int) (u ++ v)) (d : Int) := fun d u hu => by
    rw [← List.append_assoc, runS_app, runS, runS, List.length_append, hu]
    congr 1
    push_cast
    omega
  unfold anyV at h
  obtain ⟨t, ht, h1⟩ := List.any_eq_true.1 h
  unfold posV at h1
  have h2 := of_decide_eq_true h1
  obtain ⟨m, hm⟩ : ∃ m, n' - (pl + r + v.length) = m + 1 := ⟨n' - (pl + r + v.length + 1), by omega⟩
  rw [hm] at h2
  obtain ⟨d, hd, h3⟩ := bothS_ex hbs h2
  have hm3 : n' - (m + 1) = pl + r + v.length := by omega
  rw [hm3] at h3
  refine List.any_eq_true.2 ⟨d, List.mem_range.2 hd, ?_⟩
  unfold anyV
  refine List.any_eq_true.2 ⟨t, ht, ?_⟩
  have hl : pl + r + (v ++ [(d : Int)]).length = pl + r + v.length + 1 := by rw [List.length_append]; rfl
  unfold posV
  rw [hl, hrun d f hf, hrun d t (hk t ht), show n' - (pl + r + v.length + 1) = m by omega]
  exact decide_eq_true h3
theorem finS_any (hbs : D.base = (bs : Int)) (hf : f.length = r) (hk : ∀ t ∈ chgL k bs f, t.length = r) (h0 : anyV D n' pl r k bs s f [] = true) : ∀ i, pl + r + i ≤ n' → anyV D n' pl r k bs s f (finS D n' pl r k bs s f i) = true
  | 0, _ => h0
  | i + 1, hi => by
    have ih := finS_any hbs hf hk h0 i (by omega)
    have h1 := anyV_next hbs hf hk (by rw [finS_len]; omega) ih
    rw [finS]
    exact (fstI_lt h1).2
theorem finS_bd (hbs : D.base = (bs : Int)) (hf : f.length = r) (hk : ∀ t ∈ chgL k bs f, t.length = r) (h0 : anyV D n' pl r k bs s f [] = true) : ∀ i, pl + r + i ≤ n' → ∀ d ∈ finS D n' pl r k bs s f i, 0 ≤ d ∧ d < (bs : Int)
  | 0, _ => by intro d hd; simp [finS] at hd
  | i + 1, hi => by
    have ih := finS_any hbs hf hk h0 i (by omega)
    have h1 := fstI_lt (anyV_next hbs hf hk (by rw [finS_len]; omega) ih)
    intro d hd
    rw [finS] at hd
    rcases List.mem_append.1 hd with hd | hd
    · exact finS_bd hbs hf hk h0 i (by omega) d hd
    · rw [List.mem_singleton] at hd; subst hd
      exact ⟨by omega, by have := h1.1; omega⟩
theorem can_first (h0 : canB D n' pl r k bs pl D.start = true) : let y := (runS D 0 D.start (preS D n' pl r k bs pl)).toNat; (List.range (bs ^ r)).any (fun t => hasU D n' pl r y k bs (tupAt bs r t)) = true := by
  have h1 := canB_pre h0 pl (Nat.le_refl _)
  rw [Nat.sub_self, canB] at h1
  exact h1
theorem leastU_facts (hok : OkCh D) (hbs : D.base = (bs : Int)) (_hn : D.places.length = n') (hpl : pl + lenK k ≤ n') (_h5 : k ≤ 4 ∨ 10 ≤ bs) (h0 : canB D n' pl (lenK k) k bs pl D.start = true) : (leastU D n' pl (lenK k) k bs).length = n' ∧ DigC D (leastU D n' pl (lenK k) k bs) := by
  have hb := hok.b2
  have h1 := can_first h0
  obtain ⟨h2, h3⟩ := fstI_lt h1
  have hfl := tupAt_len bs (lenK k) (fstI (fun t => hasU D n' pl (lenK k) (runS D 0 D.start (preS D n' pl (lenK k) k bs pl)).toNat k bs (tupAt bs (lenK k) t)) (bs ^ lenK k))
  have hfd := tupAt_bd (m := bs) (by omega) h2
  have hk : ∀ t ∈ chgL k bs (tupAt bs (lenK k) (fstI (fun t => hasU D n' pl (lenK k) (runS D 0 D.start (preS D n' pl (lenK k) k bs pl)).toNat k bs (tupAt bs (lenK k) t)) (bs ^ lenK k))), t.length = lenK k := fun t ht => chgL_len hfl ht
  rw [← anyV_nil] at h3
  unfold leastU
  refine ⟨by simp only [List.length_append, preS_len, hfl, finS_len]; omega, fun d hd => ?_⟩
  rw [hbs]
  rcases List.mem_append.1 hd with hd | hd
  · rcases List.mem_append.1 hd with hd | hd
    · exact preS_bd h0 pl (Nat.le_refl _) d hd
    · exact hfd d hd
  · exact finS_bd hbs hfl hk h3 _ (by omega) d hd
end
end Go.Proofs.Ytccoopnoakhedaa

/- Walks: the first undetected error at a place: all symbols from a state. -/
namespace Go.Proofs.Ytccoopnoakhedaa
set_option maxRecDepth 100000
open Go.RowKit

/-- which states have an error, as far as it is known -/
def canP (D : Ch) (n' pl r k bs s : Nat) : Nat → Nat → Bool := fun j x => decide (j = pl) && (decide (x < s) && canB D n' pl r k bs 0 (x : Int))
/-- the first symbols with an error from a state on -/
def firL (D : Ch) (n' pl r k bs x : Nat) : List Int := tupAt bs r (fstI (fun t => hasU D n' pl r x k bs (tupAt bs r t)) (bs ^ r))
/-- the state while the states are searched -/
structure FLp (D : Ch) (n' S pl r k bs : Nat) (wd : World) (p7 p8 fb gc0 : Nat) (G K : Nat → Nat) (s : Nat) (Cn : Nat → Nat → Bool) (M : Int → Value) (W : World) : Prop where
  g : BGrid W wd.heap.size 88 4 (some ⟨gc0, 0, none⟩) (pl + 1) (pl + 1) S Cn G K
  v7 : VarAt W p7 87 (.slice (some ⟨gc0, 0, none⟩) (pl + 1) (pl + 1))
  v8 : VarAt W p8 86 (.map (some fb))
  m : FMap W fb s M
  rows : ∀ x : Nat, x < s → canB D n' pl r k bs 0 (x : Int) = true → ∃ ra rc, M (x : Int) = .slice ra r rc ∧ Own W wd.heap.size 2 ra r rc (I (firL D n' pl r k bs x))
  ex : Ext wd W
  f0 : wd.heap.size ≤ fb
section
variable {D : Ch} {n' S pl r k bs : Nat} {wd W W' : World} {p7 p8 fb gc0 s : Nat} {G K : Nat → Nat} {Cn : Nat → Nat → Bool} {M : Int → Value}
theorem FLp.ext (h : FLp D n' S pl r k bs wd p7 p8 fb gc0 G K s Cn M W) (hx : Ext W W') : FLp D n' S pl r k bs wd p7 p8 fb gc0 G K s Cn M W' :=
  ⟨h.g.ext hx, h.v7.ext hx, h.v8.ext hx, h.m.ext hx, fun x h1 h2 => by obtain ⟨ra, rc, h3, h4⟩ := h.rows x h1 h2; exact ⟨ra, rc, h3, h4.ext hx⟩, h.ex.trans hx, h.f0⟩
theorem own_keep2 {W W' : World} {p q B : Nat} {E : TypeId} {ad : Option Addr} {m d : Nat} {vs : List Value} (ho : Own W B E ad m d vs) (k : Two p q W W') (hne : ∀ g, ad = some g → g.block ≠ p ∧ g.block ≠ q) : Own W' B E ad m d vs := by
  refine ⟨ho.1, ?_⟩
  rcases ho.2 with h1 | ⟨g, cap, cur, hv, h1, h2, h3⟩
  · exact .inl h1
  · simp only [Value.slice.injEq] at hv
    have h4 := hne _ hv.1
    exact .inr ⟨g, cap, cur, by simp [hv.1, hv.2], h1, (k.block g (Array.getElem?_eq_some_iff.1 h2).1 h4.1 h4.2).trans h2, h3⟩
theorem canP_next {s : Nat} (h : canB D n' pl r k bs 0 (s : Int) = false) : canP D n' pl r k bs (s + 1) = canP D n' pl r k bs s := by
  funext j x
  unfold canP
  by_cases e : x = s
  · subst e; rw [h]; simp
  · rw [show decide (x < s + 1) = decide (x < s) by simp; omega]
theorem canP_put {s : Nat} (h : canB D n' pl r k bs 0 (s : Int) = true) : canP D n' pl r k bs (s + 1) = updO (canP D n' pl r k bs s) pl s true := by
  funext j x
  unfold canP updO
  by_cases e : x = s
  · subst e
    by_cases e2 : j = pl
    · subst e2; simp [h]
    · simp [e2]
  · rw [show decide (x < s + 1) = decide (x < s) by simp; omega, if_neg (fun h => e h.2)]
theorem canP_at {s : Nat} : canP D n' pl r k bs s pl s = false := by simp [canP]
end
theorem first_tup {D : Ch} {q S pl r n' : Nat} {a : Option Addr} {n c : Nat} {a' : Option Addr} {c' : Nat} {p1 p2 p3 p4 : Nat} {ba : Option Addr} {bc : Nat} {wd : World}
    (henv : FEnv D q S pl r n' a n c a' c' p1 p2 p3 p4 ba bc wd) (hok : OkCh D) (hpl : pl + r ≤ n') (k : Nat) (hk : k ≤ 5) (hr : r = lenK k) (p0 : Nat) (v0 : VarAt wd p0 2 (.int .i64 k)) (bs : Nat) (hbs : D.base = (bs : Int)) (h5 : k ≤ 4 ∨ 10 ≤ bs)
    (s : Nat) (hs : s < S) (p5 p7 p8 fb gc0 : Nat) (G K : Nat → Nat) (M : Int → Value) (W : World)
    (hf : FLp D n' S pl r k bs wd p7 p8 fb gc0 G K s (canP D n' pl r k bs s) M W) (v5 : VarAt W p5 2 (.int .i64 s)) :
    Calls Try.prog 44 #[.int .i64 bs, .int .i64 r, .func (.func 54) #[] #[.pointer (some ⟨p0, 0, none⟩), .pointer (some ⟨p4, 0, none⟩), .pointer (some ⟨p1, 0, none⟩), .pointer (some ⟨p2, 0, none⟩), .pointer (some ⟨p3, 0, none⟩), .pointer (some ⟨p5, 0, none⟩), .pointer (some ⟨p7, 0, none⟩), .pointer (some ⟨p8, 0, none⟩)]] W
      fun e w' => e = .returned (.tuple #[]) ∧ ∃ M', FLp D n' S pl r k bs wd p7 p8 fb gc0 G K (s + 1) (canP D n' pl r k bs (s + 1)) M' w' := by
  have hb2 := hok.b2
  have hb36 := hok.b36
  have hs36 := hok.s36
  have hst := henv.st
  have hr3 : r ≤ 3 := by rw [hr]; unfold lenK; split <;> (try split) <;> omega
  have hGlt : ∀ j, j < pl + 1 → G j < W.heap.size := fun j hj => (hf.g.ge hj).2
  have hG0 : wd.heap.size ≤ G pl := (hf.g.ge (show pl < pl + 1 by omega)).1
  have hgc := hf.g.outer.lt
  have hfblt := hf.m.lt
  have h5l := v5.lt
  have h7l := hf.v7.lt
  have h8l := hf.v8.lt
  have hrow := hf.g.row pl (by omega)
  have n5 : p5 ≠ G pl := fun h => hrow.ne_var v5 (by decide) _ rfl h.symm
  have n7 : p7 ≠ G pl := fun h => hrow.ne_var hf.v7 (by decide) _ rfl h.symm
  have n8 : p8 ≠ G pl := fun h => hrow.ne_var hf.v8 (by decide) _ rfl h.symm
  have nf : fb ≠ G pl := fun h => hf.m.ne_row hrow _ rfl h.symm
  have nc : gc0 ≠ G pl := own_ne_type hf.g.outer hrow (by decide) ⟨gc0, 0, none⟩ ⟨G pl, 0, none⟩ rfl rfl
  have m5 := hf.m.ne_var v5
  have m7 := hf.m.ne_var hf.v7
  have m8 := hf.m.ne_var hf.v8
  have hT := impl_tuples bs r 54 #[.pointer (some ⟨p0, 0, none⟩), .pointer (some ⟨p4, 0, none⟩), .pointer (some ⟨p1, 0, none⟩), .pointer (some ⟨p2, 0, none⟩), .pointer (some ⟨p3, 0, none⟩), .pointer (some ⟨p5, 0, none⟩), .pointer (some ⟨p7, 0, none⟩), .pointer (some ⟨p8, 0, none⟩)]
    (fun t V => Two (G pl) W.heap.size W V ∧ BGrid V wd.heap.size 88 4 (some ⟨gc0, 0, none⟩) (pl + 1) (pl + 1) S (canP D n' pl r k bs s) G K ∧ ∀ t', t' < t → hasU D n' pl r s k bs (tupAt bs r t') = false)
    (fun V => ∃ t V1, t < bs ^ r ∧ hasU D n' pl r s k bs (tupAt bs r t) = true ∧ (∀ t', t' < t → hasU D n' pl r s k bs (tupAt bs r t') = false) ∧ Two (G pl) W.heap.size W V1 ∧ Two (G pl) fb V1 V ∧ BGrid V wd.heap.size 88 4 (some ⟨gc0, 0, none⟩) (pl + 1) (pl + 1) S (updO (canP D n' pl r k bs s) pl s true) G K ∧
      ∃ ra rc, FMap V fb (s + 1) (fun x => if x = (s : Int) then .slice ra r rc else M x) ∧ Own V V1.heap.size 2 ra r rc (I (tupAt bs r t)))
    W (by omega) (by omega) (by omega) (fun _ _ => rfl)
    (fun V ht => by
      have k2 : Two (G pl) W.heap.size W V := ⟨ht.os, ht.tape, ht.output, ht.size, fun i h1 _ h3 => ht.block i h1 h3⟩
      have k3 : Two W.heap.size W.heap.size W V := ⟨ht.os, ht.tape, ht.output, ht.size, fun i h1 _ h3 => ht.block i h1 h3⟩
      exact ⟨k2, hf.g.two k3 (fun x hx => by injection hx with hx; subst hx; simp only; omega) (fun j hj => by have := hGlt j hj; omega), fun t' h => by omega⟩)
    (fun t V V' h ht => by
      have k2 : Two (G pl) W.heap.size V V' := ⟨ht.os, ht.tape, ht.output, ht.size, fun i h1 _ h3 => ht.block i h1 h3⟩
      have k3 : Two W.heap.size W.heap.size V V' := ⟨ht.os, ht.tape, ht.output, ht.size, fun i h1 _ h3 => ht.block i h1 h3⟩
      exact ⟨h.1.trans k2, h.2.1.two k3 (fun x hx => by injection hx with hx; subst hx; simp only; omega) (fun j hj => by have := hGlt j hj; omega), h.2.2⟩)
    (fun t V ht h ho => by
      have hx : Ext wd V := hf.ex.two h.1 hG0 hf.ex.le
      have hfd : DigC D (tupAt bs r t) := fun d hd => by have := tupAt_bd (m := bs) (by omega) ht d hd; omega
      have hvm : FMap V fb s M := hf.m.two h.1 nf (by omega)
      refine (first1 henv hok hpl k hk hr p0 v0 bs hbs h5 s hs p5 p7 p8 fb W.heap.size (tupAt bs r t) hfd (some ⟨gc0, 0, none⟩) (pl + 1) (canP D n' pl r k bs s) G K M s V hx (v5.two h.1 n5 (by omega)) (hf.v7.two h.1 n7 (by omega)) (hf.v8.two h.1 n8 (by omega)) h.2.1 hvm (by omega) ho canP_at hf.f0).mono ?_
      rintro e V' ⟨rfl, h1, h2⟩
      cases hu : hasU D n' pl r s k bs (tupAt bs r t)
      · obtain ⟨g1, g2⟩ := h1 hu
        have hgne : W.heap.size ≠ G pl := by have := hGlt pl (by omega); omega
        refine .inl ⟨rfl, ⟨h.1.trans ⟨g2.os, g2.tape, g2.output, g2.size, fun i a1 a2 _ => g2.block i a1 a2 a2⟩, g1, fun t' ht' => ?_⟩, g2.block _ ho.lt.2 hgne hgne⟩
        rcases Nat.lt_or_ge t' t with h3 | h3
        · exact h.2.2 t' h3
        · obtain rfl : t' = t := by omega
          exact hu
      · obtain ⟨g1, g2, ra, rc, g3, g4⟩ := h2 hu
        exact .inr ⟨rfl, t, V, ht, hu, h.2.2, h.1, g2, g1, ra, rc, g3, g4⟩)
  refine hT.mono ?_
  rintro e V ⟨rfl, ⟨h1, h2, h3⟩ | ⟨t, V1, ht, hu, hlt, h1, h2, hgr, ra, rc, hm, ho⟩⟩
  · refine ⟨rfl, M, ?_⟩
    have hc : canB D n' pl r k bs 0 (s : Int) = false := by
      unfold canB
      rw [Int.toNat_natCast]
      exact List.any_eq_false.2 fun t ht => by rw [h3 t (List.mem_range.1 ht)]; decide
    rw [canP_next hc]
    refine ⟨h2, hf.v7.two h1 n7 (by omega), hf.v8.two h1 n8 (by omega), (hf.m.two h1 nf (by omega)).mono (by omega), fun x hx hcx => ?_, hf.ex.two h1 hG0 hf.ex.le, hf.f0⟩
    have hne : x ≠ s := fun e => by rw [e, hc] at hcx; cases hcx
    obtain ⟨ra, rc, g1, g2⟩ := hf.rows x (by omega) hcx
    exact ⟨ra, rc, g1, own_keep2 g2 h1 fun g hg => ⟨own_ne_type g2 hrow (by decide) g ⟨G pl, 0, none⟩ hg rfl, by have := own_blk g2 g hg; omega⟩⟩
  · refine ⟨rfl, fun x => if x = (s : Int) then .slice ra r rc else M x, ?_⟩
    have hc : canB D n' pl r k bs 0 (s : Int) = true := by
      unfold canB
      rw [Int.toNat_natCast]
      exact List.any_eq_true.2 ⟨t, List.mem_range.2 ht, hu⟩
    rw [canP_put hc]
    have hv7 := hf.v7.two h1 n7 (by omega)
    have hv8 := hf.v8.two h1 n8 (by omega)
    have hm1 := hf.m.two h1 nf (by omega)
    refine ⟨hgr, hv7.two h2 n7 m7, hv8.two h2 n8 m8, hm, fun x hx hcx => ?_, (hf.ex.two h1 hG0 hf.ex.le).two h2 hG0 hf.f0, hf.f0⟩
    by_cases e : x = s
    · subst e
      refine ⟨ra, rc, if_pos rfl, ?_⟩
      have hfs : firL D n' pl r k bs x = tupAt bs r t := by unfold firL; rw [fstI_eq ht hu hlt]
      rw [hfs]
      exact ho.mono (Nat.le_trans hf.ex.le h1.size)
    · obtain ⟨ra', rc', g1, g2⟩ := hf.rows x (by omega) hcx
      have g3 := own_keep2 g2 h1 fun g hg => ⟨own_ne_type g2 hrow (by decide) g ⟨G pl, 0, none⟩ hg rfl, by have := own_blk g2 g hg; omega⟩
      exact ⟨ra', rc', by rw [if_neg (by omega)]; exact g1, own_keep2 g3 h2 fun g hg => ⟨own_ne_type g2 hrow (by decide) g ⟨G pl, 0, none⟩ hg rfl, hm1.ne_row g3 g hg⟩⟩
section
variable {D : Ch} {n' S pl r k bs : Nat} {wd W W' : World} {p7 p8 fb gc0 s : Nat} {G K : Nat → Nat} {Cn : Nat → Nat → Bool} {M : Int → Value}
theorem FLp.congr {Cn' : Nat → Nat → Bool} (h : FLp D n' S pl r k bs wd p7 p8 fb gc0 G K s Cn M W) (he : ∀ j, j < pl + 1 → ∀ x, x < S → Cn j x = Cn' j x) : FLp D n' S pl r k bs wd p7 p8 fb gc0 G K s Cn' M W :=
  ⟨h.g.congr he, h.v7, h.v8, h.m, h.rows, h.ex, h.f0⟩
theorem FLp.put (h : FLp D n' S pl r k bs wd p7 p8 fb gc0 G K s Cn M W) {i x : Nat} (hi : i < pl + 1) (hx : x < S) (v : Bool) : FLp D n' S pl r k bs wd p7 p8 fb gc0 G K s (updO Cn i x v) M (W.setCell ⟨G i, x, none⟩ (.bool v)) := by
  have hrow := h.g.row i hi
  have n7 : p7 ≠ G i := fun e => hrow.ne_var h.v7 (by decide) _ rfl e.symm
  have n8 : p8 ≠ G i := fun e => hrow.ne_var h.v8 (by decide) _ rfl e.symm
  have nf : fb ≠ G i := fun e => h.m.ne_row hrow _ rfl e.symm
  have k2 : Two (G i) (G i) W (W.setCell ⟨G i, x, none⟩ (.bool v)) := Two.setO (G i) (G i) x W _
  exact ⟨h.g.set hi hx v (by decide), h.v7.two k2 n7 n7, h.v8.two k2 n8 n8, h.m.two k2 nf nf, fun y h1 h2 => by
    obtain ⟨ra, rc, g1, g2⟩ := h.rows y h1 h2
    exact ⟨ra, rc, g1, own_keep2 g2 k2 fun g hg => ⟨own_ne_type g2 hrow (by decide) g ⟨G i, 0, none⟩ hg rfl, own_ne_type g2 hrow (by decide) g ⟨G i, 0, none⟩ hg rfl⟩⟩, h.ex.two k2 (h.g.ge hi).1 (h.g.ge hi).1, h.f0⟩
end
/-- the rows behind m are done; in the row there the states up to s, there the symbols up to d -/
structure BkTo (D : Ch) (n' pl r k bs S m s d : Nat) (Cn : Nat → Nat → Bool) : Prop where
  lo : ∀ j x, pl ≤ j + m → j ≤ pl → x < S → Cn j x = canB D n' pl r k bs (pl - j) (x : Int)
  hi : ∀ j x, j + 1 + m < pl → x < S → Cn j x = false
  row : ∀ j x, j + 1 + m = pl → x < S → Cn j x = if x < s then canB D n' pl r k bs (m + 1) (x : Int) else if x = s then (List.range d).any fun e => canB D n' pl r k bs m (nextS D (j : Int) (s : Int) (e : Int)) else false
section
variable {D : Ch} {n' pl r k bs S m s d : Nat} {Cn : Nat → Nat → Bool}
theorem BkTo.start : BkTo D n' pl r k bs S 0 0 0 (canP D n' pl r k bs S) :=
  ⟨fun j x h1 h2 h3 => by
    obtain rfl : j = pl := by omega
    simp [canP, h3], fun j x h1 h2 => by simp [canP]; intro h; omega, fun j x h1 h2 => by
    rw [if_neg (by omega)]
    have : canP D n' pl r k bs S j x = false := by simp [canP]; intro h; omega
    rw [this]; split <;> rfl⟩
theorem BkTo.step {j : Nat} {y : Nat} (h : BkTo D n' pl r k bs S m s d Cn) (hj : j + 1 + m = pl) (hs : s < S) (hy : nextS D (j : Int) (s : Int) (d : Int) = (y : Int)) (hyS : y < S) : BkTo D n' pl r k bs S m s (d + 1) (updO Cn j s (Cn j s || Cn (j + 1) y)) := by
  refine ⟨fun i x h1 h2 h3 => ?_, fun i x h1 h2 => ?_, fun i x h1 h2 => ?_⟩
  · rw [updO_row (by omega)]; exact h.lo i x h1 h2 h3
  · rw [updO_row (by omega)]; exact h.hi i x h1 h2
  · obtain rfl : i = j := by omega
    by_cases e : x = s
    · subst e
      rw [updO_same, if_neg (by omega), if_pos rfl, h.row i x h1 h2, if_neg (by omega), if_pos rfl, List.range_succ, List.any_append, h.lo (i + 1) y (by omega) (by omega) hyS, show pl - (i + 1) = m by omega]
      simp [hy]
    · rw [updO_col e, h.row i x h1 h2, if_neg e, if_neg e]
theorem BkTo.next (h : BkTo D n' pl r k bs S m s bs Cn) : BkTo D n' pl r k bs S m (s + 1) 0 Cn := by
  refine ⟨h.lo, h.hi, fun j x h1 h2 => ?_⟩
  rw [h.row j x h1 h2]
  by_cases e : x < s
  · rw [if_pos e, if_pos (by omega)]
  · rw [if_neg e]
    by_cases e2 : x = s
    · subst e2
      rw [if_pos rfl, if_pos (by omega), canB, show pl - (m + 1) = j by omega]
    · rw [if_neg e2, if_neg (by omega)]
      split <;> rfl
theorem BkTo.done (h : BkTo D n' pl r k bs S m S 0 Cn) : BkTo D n' pl r k bs S (m + 1) 0 0 Cn := by
  refine ⟨fun j x h1 h2 h3 => ?_, fun j x h1 h2 => h.hi j x (by omega) h2, fun j x h1 h2 => ?_⟩
  · rcases Nat.lt_or_ge (j + m) pl with h4 | h4
    · rw [h.row j x (by omega) h3, if_pos h3, show pl - j = m + 1 by omega]
    · exact h.lo j x h4 h2 h3
  · rw [h.hi j x (by omega) h2, if_neg (by omega)]
    split <;> rfl
theorem BkTo.all (h : BkTo D n' pl r k bs S pl 0 0 Cn) : ∀ j, j < pl + 1 → ∀ x, x < S → Cn j x = canB D n' pl r k bs (pl - j) (x : Int) := fun j hj x hx => h.lo j x (by omega) (by omega) hx
end
end Go.Proofs.Ytccoopnoakhedaa
