/- Words: rows between two bounds, whose elements lie between bounds of their own; what changes between two bounds alone. Conditions: none; nothing here speaks of a program's text. -/
import Derived.Test.YtccoopnoakhedaaCube
import Derived.Test.YtccoopnoakhedaaMark
import Derived.Maps.AppendAt
namespace Go.Proofs.Ytccoopnoakhedaa
set_option maxRecDepth 100000
open Go.RowKit

/-- the blocks from lo to hi apart, nothing that was there has changed -/
structure Chg (lo hi : Nat) (w w' : World) : Prop where
  os : w'.os = w.os
  tape : w'.tape = w.tape
  output : w'.output = w.output
  size : w.heap.size ≤ w'.heap.size
  block : ∀ q, q < w.heap.size → q < lo ∨ hi ≤ q → w'.heap[q]? = w.heap[q]?
theorem Chg.refl (lo hi : Nat) (w : World) : Chg lo hi w w := ⟨rfl, rfl, rfl, Nat.le_refl _, fun _ _ _ => rfl⟩
theorem Chg.trans {lo hi : Nat} {w w' w'' : World} (h : Chg lo hi w w') (k : Chg lo hi w' w'') : Chg lo hi w w'' :=
  ⟨k.os.trans h.os, k.tape.trans h.tape, k.output.trans h.output, Nat.le_trans h.size k.size, fun q hq ho => (k.block q (Nat.lt_of_lt_of_le hq h.size) ho).trans (h.block q hq ho)⟩
theorem Chg.ext {w w' : World} (h : Ext w w') (lo hi : Nat) : Chg lo hi w w' := ⟨Below.os h, Below.tape h, Below.output h, h.le, fun q hq _ => Below.block h q hq⟩
theorem Chg.mono {lo hi lo' hi' : Nat} {w w' : World} (h : Chg lo hi w w') (hl : lo' ≤ lo) (hh : hi ≤ hi') : Chg lo' hi' w w' :=
  ⟨h.os, h.tape, h.output, h.size, fun q hq ho => h.block q hq (by omega)⟩
theorem Chg.set {lo hi g : Nat} (w : World) (k : Nat) (u : Value) (hl : lo ≤ g) (hh : g < hi) : Chg lo hi w (w.setCell ⟨g, k, none⟩ u) :=
  ⟨rfl, rfl, rfl, by simp [World.setCell], fun q _ ho => Below.heap_setCell _ _ _ _ (by intro h; have : q = g := h; omega)⟩
theorem Chg.setP {lo hi : Nat} (w : World) (p : Addr) (u : Value) (hl : lo ≤ p.block) (hh : p.block < hi) : Chg lo hi w (w.setCell p u) :=
  ⟨rfl, rfl, rfl, by simp [World.setCell], fun q _ ho => Below.heap_setCell _ _ _ _ (by intro h; omega)⟩
theorem Chg.to {lo hi : Nat} {w0 w w' : World} (h : Chg lo hi w w') (hx : Ext w0 w) (hB : w0.heap.size ≤ lo) : Ext w0 w' :=
  Below.trans hx ⟨h.os, h.tape, h.output, h.size, fun q hq => h.block q (Nat.lt_of_lt_of_le hq hx.le) (.inl (Nat.lt_of_lt_of_le hq hB))⟩
theorem Mk.chg {B lo hi : Nat} {a : Option Addr} {w w' : World} (h : Mk B a w w') (hl : lo ≤ B) (hh : ∀ g, a = Option.some g → g.block < hi) (hB : ∀ g, a = Option.some g → B ≤ g.block) : Chg lo hi w w' :=
  ⟨h.below.os, h.below.tape, h.below.output, h.size, fun q hq ho => h.block q hq fun g hg he => by have := hh g hg; have := hB g hg; omega⟩
theorem grown_chg {w w' : World} {row : Option Nat} (h : w.grownBy w' row) {lo hi : Nat} (hr : ∀ k, row = some k → lo ≤ k ∧ k < hi) : Chg lo hi w w' :=
  ⟨h.os, h.tape, h.output, h.size, fun q hq ho => h.block q hq fun he => by have := hr q he.symm; omega⟩

/-- a row of the call's own between two bounds -/
def OwnIn (w : World) (lo hi : Nat) (E : TypeId) (a : Option Addr) (n c : Nat) (vs : List Value) : Prop := Own w lo E a n c vs ∧ ∀ g, a = Option.some g → g.block < hi
section
variable {w w' : World} {lo hi : Nat} {E : TypeId} {a : Option Addr} {n c : Nat} {vs : List Value}
theorem Own.blk (h : Own w lo E a n c vs) : ∀ g, a = Option.some g → lo ≤ g.block ∧ g.block < w.heap.size := by
  rintro g rfl
  rcases h.2 with ⟨h1, _⟩ | ⟨b, cap, cur, hv, hb, hg, _⟩
  · cases h1
  simp only [Value.slice.injEq, Option.some.injEq, true_and] at hv
  rw [hv.1]
  exact ⟨hb, (Array.getElem?_eq_some_iff.1 hg).1⟩
theorem Own.in (h : Own w lo E a n c vs) : OwnIn w lo w.heap.size E a n c vs := ⟨h, fun g hg => (h.blk g hg).2⟩
theorem Own.chg {lo' hi' : Nat} (h : Own w lo E a n c vs) (hc : Chg lo' hi' w w') (hd : ∀ g, a = Option.some g → g.block < lo' ∨ hi' ≤ g.block) : Own w' lo E a n c vs := by
  refine ⟨h.1, ?_⟩
  rcases h.2 with h2 | ⟨g, cap, cur, hv, hb, hg, r⟩
  · exact .inl h2
  · simp only [Value.slice.injEq, true_and] at hv
    obtain ⟨rfl, rfl⟩ := hv
    exact .inr ⟨g, c, cur, rfl, hb, by rw [hc.block g (Array.getElem?_eq_some_iff.1 hg).1 (hd _ rfl)]; exact hg, r⟩
theorem OwnIn.chg {lo' hi' : Nat} (h : OwnIn w lo hi E a n c vs) (hc : Chg lo' hi' w w') (hd : hi' ≤ lo ∨ hi ≤ lo') : OwnIn w' lo hi E a n c vs :=
  ⟨h.1.chg hc fun g hg => by have := h.2 g hg; have := (h.1.blk g hg).1; omega, h.2⟩
theorem OwnIn.mono {lo' hi' : Nat} (h : OwnIn w lo hi E a n c vs) (hl : lo' ≤ lo) (hh : hi ≤ hi') : OwnIn w lo' hi' E a n c vs := ⟨h.1.mono hl, fun g hg => Nat.lt_of_lt_of_le (h.2 g hg) hh⟩
theorem OwnIn.ext (h : OwnIn w lo hi E a n c vs) (hx : Ext w w') : OwnIn w' lo hi E a n c vs := ⟨h.1.ext hx, h.2⟩
theorem OwnIn.ne {lo' n' c' : Nat} {E' : TypeId} {a' : Option Addr} {vs' : List Value} (h : OwnIn w lo hi E a n c vs) (h' : Own w' lo' E' a' n' c' vs') (hd : hi ≤ lo') : ∀ g g', a = Option.some g → a' = Option.some g' → g.block ≠ g'.block := fun g g' hg hg' => by
  have := h.2 g hg; have := (h'.blk g' hg').1; omega
end

/-- what is said of an element keeps while its bounds are left alone -/
def Keeps (R : Nat → Value → World → Nat → Nat → Prop) : Prop :=
  ∀ k v w w' lo hi lo' hi', R k v w lo hi → Chg lo' hi' w w' → (hi' ≤ lo ∨ hi ≤ lo') → R k v w' lo hi
/-- a row whose first m elements lie between bounds of their own, apart from one another and from the row -/
structure Row (w : World) (lo hi : Nat) (E : TypeId) (a : Option Addr) (n c : Nat) (vs : List Value) (m : Nat) (s t : Nat → Nat) (R : Nat → Value → World → Nat → Nat → Prop) : Prop where
  own : Own w lo E a n c vs
  top : ∀ g, a = Option.some g → g.block < hi
  out : ∀ g, a = Option.some g → ∀ k, k < m → g.block < s k ∨ t k ≤ g.block
  el : ∀ k, k < m → lo ≤ s k ∧ s k ≤ t k ∧ t k ≤ hi ∧ R k (gv vs k) w (s k) (t k)
  sep : ∀ j k, j < k → k < m → t j ≤ s k
theorem size_setCell (w : World) (p : Addr) (u : Value) : (w.setCell p u).heap.size = w.heap.size := by simp [World.setCell]
def updN (s : Nat → Nat) (k v : Nat) : Nat → Nat := fun j => if j = k then v else s j
theorem updN_same (s : Nat → Nat) (k v : Nat) : updN s k v k = v := by simp [updN]
theorem updN_ne {s : Nat → Nat} {k v j : Nat} (h : j ≠ k) : updN s k v j = s j := by simp [updN, h]
theorem gvset_ne {vs : List Value} {k j : Nat} {u : Value} (h : k ≠ j) : gv (vs.set k u) j = gv vs j := by
  simp [gv, List.getD_eq_getElem?_getD, List.getElem?_set_ne h]
theorem gvset_eq {vs : List Value} {k : Nat} {u : Value} (h : k < vs.length) : gv (vs.set k u) k = u := by
  simp [gv, List.getD_eq_getElem?_getD, h]
section
variable {w w' : World} {lo hi : Nat} {E : TypeId} {a : Option Addr} {n c : Nat} {vs : List Value} {m : Nat} {s t : Nat → Nat} {R R' : Nat → Value → World → Nat → Nat → Prop}
theorem Row.ext (hR : Keeps R) (h : Row w lo hi E a n c vs m s t R) (hx : Ext w w') : Row w' lo hi E a n c vs m s t R :=
  ⟨h.own.ext hx, h.top, h.out, fun k hk => let ⟨h1, h2, h3, h4⟩ := h.el k hk; ⟨h1, h2, h3, hR k _ w w' _ _ 0 0 h4 (Chg.ext hx 0 0) (.inl (Nat.zero_le _))⟩, h.sep⟩
theorem Row.chg {lo' hi' : Nat} (hR : Keeps R) (h : Row w lo hi E a n c vs m s t R) (hc : Chg lo' hi' w w') (hd : hi' ≤ lo ∨ hi ≤ lo') : Row w' lo hi E a n c vs m s t R :=
  ⟨h.own.chg hc fun g hg => by have := h.top g hg; have := (h.own.blk g hg).1; omega, h.top, h.out,
    fun k hk => let ⟨h1, h2, h3, h4⟩ := h.el k hk; ⟨h1, h2, h3, hR k _ w w' _ _ lo' hi' h4 hc (by omega)⟩, h.sep⟩
theorem Row.mono {lo' hi' : Nat} (h : Row w lo hi E a n c vs m s t R) (hl : lo' ≤ lo) (hh : hi ≤ hi') : Row w lo' hi' E a n c vs m s t R :=
  ⟨h.own.mono hl, fun g hg => Nat.lt_of_lt_of_le (h.top g hg) hh, h.out, fun k hk => let ⟨h1, h2, h3, h4⟩ := h.el k hk; ⟨by omega, h2, by omega, h4⟩, h.sep⟩
/-- one element has changed within its bounds -/
theorem Row.at (hR : Keeps R) (h : Row w lo hi E a n c vs m s t R) {j : Nat} (hj : j < m) (hc : Chg (s j) (t j) w w') (hn : R' j (gv vs j) w' (s j) (t j)) (ho : ∀ k v W l u, k ≠ j → R k v W l u → R' k v W l u) :
    Row w' lo hi E a n c vs m s t R' :=
  ⟨h.own.chg hc fun g hg => h.out g hg j hj, h.top, h.out, fun k hk => by
    obtain ⟨h1, h2, h3, h4⟩ := h.el k hk
    refine ⟨h1, h2, h3, ?_⟩
    by_cases e : k = j
    · subst e; exact hn
    · refine ho k _ _ _ _ e (hR k _ w w' _ _ (s j) (t j) h4 hc ?_)
      rcases Nat.lt_or_gt_of_ne e with h5 | h5
      · exact .inr (h.sep k j h5 hj)
      · exact .inl (h.sep j k h5 hk), h.sep⟩
/-- one element more, into a row that is there -/
theorem Row.fill {g : Nat} {w5 : World} {v : Value} (hR : Keeps R) (h : Row w lo w.heap.size E (Option.some ⟨g, 0, none⟩) n c vs m s t R) (hx : Ext w w5) (hm : m < n) (hv : R m v w5 w.heap.size w5.heap.size) :
    Row (w5.setCell ⟨g, m, none⟩ v) lo (w5.setCell ⟨g, m, none⟩ v).heap.size E (Option.some ⟨g, 0, none⟩) n c (vs.set m v) (m + 1) (updN s m w.heap.size) (updN t m w5.heap.size) R := by
  rw [size_setCell]
  have hg := h.own.lt
  have hle := hx.le
  have hc : Chg g (g + 1) w5 (w5.setCell ⟨g, m, none⟩ v) := Chg.set w5 m v (Nat.le_refl _) (by omega)
  have hlen := h.own.len
  refine ⟨(h.own.ext hx).set m v, fun g' hg' => ?_, fun g' hg' k hk => ?_, fun k hk => ?_, fun j k hjk hk => ?_⟩
  · simp only [Option.some.injEq] at hg'; subst hg'; show g < _; omega
  · by_cases e : k = m
    · subst e; rw [updN_same, updN_same]; simp only [Option.some.injEq] at hg'; subst hg'; exact .inl hg.2
    · rw [updN_ne e, updN_ne e]; exact h.out g' hg' k (by omega)
  · by_cases e : k = m
    · subst e
      rw [updN_same, updN_same, gvset_eq (by omega)]
      exact ⟨by omega, hle, Nat.le_refl _, hR k v _ _ _ _ g (g + 1) hv hc (.inl hg.2)⟩
    · obtain ⟨h1, h2, h3, h4⟩ := h.el k (by omega)
      rw [updN_ne e, updN_ne e, gvset_ne (fun h => e h.symm)]
      refine ⟨h1, h2, by omega, hR k _ _ _ _ _ g (g + 1) (hR k _ w w5 _ _ 0 0 h4 (Chg.ext hx 0 0) (.inl (Nat.zero_le _))) hc ?_⟩
      have := h.out _ rfl k (by omega)
      simp only at this
      omega
  · by_cases e : k = m
    · subst e; rw [updN_same, updN_ne (by omega)]; exact (h.el j hjk).2.2.1
    · rw [updN_ne e, updN_ne (by omega)]; exact h.sep j k hjk (by omega)
/-- one element more, by append -/
theorem Row.push {w5 w6 : World} {v : Value} {a6 : Option Addr} {c6 : Nat} (hR : Keeps R) (h : Row w lo w.heap.size E a n c vs n s t R) (hx : Ext w w5) (hlo : lo ≤ w.heap.size) (hv : R n v w5 w.heap.size w5.heap.size)
    (ho : Own w6 lo E a6 (n + 1) c6 (vs ++ [v])) (hg : w5.grownBy w6 (Value.slice a n c).ownBlock) (hb : ∀ g, a6 = Option.some g → (∃ g', a = Option.some g' ∧ g'.block = g.block) ∨ w5.heap.size ≤ g.block) :
    Row w6 lo w6.heap.size E a6 (n + 1) c6 (vs ++ [v]) (n + 1) (updN s n w.heap.size) (updN t n w5.heap.size) R := by
  have hle := hx.le
  have hlen := h.own.len
  have hsz := hg.size
  have hkeep : ∀ k v l u, R k v w5 l u → (∀ g, a = Option.some g → g.block < l ∨ u ≤ g.block) → R k v w6 l u := fun k v l u hr hd => by
    cases ha : a with
    | none => exact hR k v w5 w6 l u 0 0 hr (grown_chg hg (fun k hk => by rw [ha] at hk; simp [Value.ownBlock] at hk)) (.inl (Nat.zero_le _))
    | some g =>
      refine hR k v w5 w6 l u g.block (g.block + 1) hr (grown_chg hg (fun k hk => by rw [ha] at hk; simp [Value.ownBlock] at hk; omega)) ?_
      have := hd g ha; omega
  refine ⟨ho, fun g hg' => (ho.blk g hg').2, fun g hg' k hk => ?_, fun k hk => ?_, fun j k hjk hk => ?_⟩
  · rcases hb g hg' with ⟨g', ha, he⟩ | h1
    · rw [← he]
      by_cases e : k = n
      · subst e; rw [updN_same, updN_same]; exact .inl (h.top g' ha)
      · rw [updN_ne e, updN_ne e]; exact h.out g' ha k (by omega)
    · refine .inr ?_
      by_cases e : k = n
      · subst e; rw [updN_same]; exact h1
      · rw [updN_ne e]; have := (h.el k (by omega)).2.2.1; omega
  · by_cases e : k = n
    · subst e
      rw [updN_same, updN_same, gv_last hlen]
      exact ⟨hlo, hle, hsz, hkeep _ _ _ _ hv fun g hg' => .inl (h.top g hg')⟩
    · obtain ⟨h1, h2, h3, h4⟩ := h.el k (by omega)
      rw [updN_ne e, updN_ne e, gv_lt (by omega)]
      exact ⟨h1, h2, by omega, hkeep _ _ _ _ (hR k _ w w5 _ _ 0 0 h4 (Chg.ext hx 0 0) (.inl (Nat.zero_le _))) fun g hg' => h.out g hg' k (by omega)⟩
  · by_cases e : k = n
    · subst e; rw [updN_same, updN_ne (by omega)]; exact (h.el j hjk).2.2.1
    · rw [updN_ne e, updN_ne (by omega)]; exact h.sep j k hjk (by omega)
theorem Row.weak (h : Row w lo hi E a n c vs m s t R) (ho : ∀ k v W l u, k < m → R k v W l u → R' k v W l u) : Row w lo hi E a n c vs m s t R' :=
  ⟨h.own, h.top, h.out, fun k hk => let ⟨h1, h2, h3, h4⟩ := h.el k hk; ⟨h1, h2, h3, ho k _ _ _ _ hk h4⟩, h.sep⟩
theorem Row.zero (R : Nat → Value → World → Nat → Nat → Prop) (h : Own w lo E a n c vs) (hh : w.heap.size ≤ hi) : Row w lo hi E a n c vs 0 s t R :=
  ⟨h, fun g hg => Nat.lt_of_lt_of_le (h.blk g hg).2 hh, fun _ _ k hk => by omega, fun k hk => by omega, fun j k _ hk => by omega⟩
end

/-- the elements of tables: lists of numbers; tables of them -/
def RI (E0 : TypeId) (ll : List (List Int)) (k : Nat) (v : Value) (w : World) (lo hi : Nat) : Prop := ∃ a n c, v = .slice a n c ∧ OwnIn w lo hi E0 a n c (I (gl ll k))
theorem RI.keeps (E0 : TypeId) (ll : List (List Int)) : Keeps (RI E0 ll) := fun _ _ _ _ _ _ _ _ ⟨a, n, c, h1, h2⟩ hc hd => ⟨a, n, c, h1, h2.chg hc hd⟩
def MatR (w : World) (lo hi : Nat) (E1 E0 : TypeId) (a : Option Addr) (n c : Nat) (ll : List (List Int)) : Prop := ∃ vs s t, ll.length = n ∧ Row w lo hi E1 a n c vs n s t (RI E0 ll)
def RM (E1 E0 : TypeId) (lll : List (List (List Int))) (k : Nat) (v : Value) (w : World) (lo hi : Nat) : Prop := ∃ a n c, v = .slice a n c ∧ MatR w lo hi E1 E0 a n c (gm lll k)
section
variable {w w' : World} {lo hi : Nat} {E2 E1 E0 : TypeId} {a : Option Addr} {n c : Nat} {ll : List (List Int)} {lll : List (List (List Int))}
theorem MatR.chg {lo' hi' : Nat} (h : MatR w lo hi E1 E0 a n c ll) (hc : Chg lo' hi' w w') (hd : hi' ≤ lo ∨ hi ≤ lo') : MatR w' lo hi E1 E0 a n c ll :=
  let ⟨vs, s, t, h1, h2⟩ := h; ⟨vs, s, t, h1, h2.chg (RI.keeps _ _) hc hd⟩
theorem MatR.ext (h : MatR w lo hi E1 E0 a n c ll) (hx : Ext w w') : MatR w' lo hi E1 E0 a n c ll := h.chg (Chg.ext hx 0 0) (.inl (Nat.zero_le _))
theorem MatR.mono {lo' hi' : Nat} (h : MatR w lo hi E1 E0 a n c ll) (hl : lo' ≤ lo) (hh : hi ≤ hi') : MatR w lo' hi' E1 E0 a n c ll :=
  let ⟨vs, s, t, h1, h2⟩ := h; ⟨vs, s, t, h1, h2.mono hl hh⟩
theorem MatR.mat (h : MatR w lo hi E1 E0 a n c ll) : Mat w a n c ll :=
  let ⟨vs, _, _, h1, h2⟩ := h; ⟨h1, vs, h2.own.sl, fun k hk => let ⟨_, _, _, a', n', c', h3, h4⟩ := h2.el k hk; ⟨a', n', c', h3, h4.1.ints⟩⟩
theorem RM.keeps (E1 E0 : TypeId) (lll : List (List (List Int))) : Keeps (RM E1 E0 lll) := fun _ _ _ _ _ _ _ _ ⟨a, n, c, h1, h2⟩ hc hd => ⟨a, n, c, h1, h2.chg hc hd⟩
def CubeR (w : World) (lo hi : Nat) (E2 E1 E0 : TypeId) (a : Option Addr) (n c : Nat) (lll : List (List (List Int))) : Prop := ∃ vs s t, lll.length = n ∧ Row w lo hi E2 a n c vs n s t (RM E1 E0 lll)
theorem CubeR.chg {lo' hi' : Nat} (h : CubeR w lo hi E2 E1 E0 a n c lll) (hc : Chg lo' hi' w w') (hd : hi' ≤ lo ∨ hi ≤ lo') : CubeR w' lo hi E2 E1 E0 a n c lll :=
  let ⟨vs, s, t, h1, h2⟩ := h; ⟨vs, s, t, h1, h2.chg (RM.keeps _ _ _) hc hd⟩
theorem CubeR.ext (h : CubeR w lo hi E2 E1 E0 a n c lll) (hx : Ext w w') : CubeR w' lo hi E2 E1 E0 a n c lll := h.chg (Chg.ext hx 0 0) (.inl (Nat.zero_le _))
theorem CubeR.mono {lo' hi' : Nat} (h : CubeR w lo hi E2 E1 E0 a n c lll) (hl : lo' ≤ lo) (hh : hi ≤ hi') : CubeR w lo' hi' E2 E1 E0 a n c lll :=
  let ⟨vs, s, t, h1, h2⟩ := h; ⟨vs, s, t, h1, h2.mono hl hh⟩
theorem CubeR.cube (h : CubeR w lo hi E2 E1 E0 a n c lll) : Cube w a n c lll :=
  let ⟨vs, _, _, h1, h2⟩ := h; ⟨h1, vs, h2.own.sl, fun k hk => let ⟨_, _, _, a', n', c', h3, h4⟩ := h2.el k hk; ⟨a', n', c', h3, h4.mat⟩⟩
end

/-- append(s, u): as law_append1, and where the new row lies -/
theorem law_append1_at {P : Program} (w : World) {ops : Array Oper} {rest : List Oper} {o : Oper} {a : Act} {Q : Exit → Act → World → Prop}
    (hg : o.guard = none) (s x : Operand) (t : TypeId) (hop : o.op = Op.call { callee := Callee.builtin Builtin.append, args := #[s, x], argTypes := #[t, t] })
    (e : TypeId) (z : Value) (bytes : Nat) (h1 : P.underlying t = some (.slice e)) (h2 : (P.info? e).map (fun i => (i.zero, i.size, i.bytes)) = some (some z, 1, bytes)) (hz : z.cells.size = 1)
    (B : Nat) (ad : Option Addr) (n c : Nat) (vs : List Value) (u : Value) (hu : u.oneCell' = true) (hs : a.eval s = .slice ad n c) (hx : a.eval x = .slice (some ⟨w.heap.size, 0, none⟩) 1 1)
    (hown : Own w B e ad n c vs) (hB : B ≤ w.heap.size) (hn : n < 1099511627776) (hb : bytes ≤ 64)
    (hK : ∀ ad' c' w', Own w' B e ad' (n + 1) c' (vs ++ [u]) → Below B w w' → w.grownBy w' (Value.slice ad n c).ownBlock → (∀ g, ad' = Option.some g → (∃ g', ad = Option.some g' ∧ g'.block = g.block) ∨ w.heap.size ≤ g.block) → wpList P ops Q rest (a.put o.dst (.slice ad' (n + 1) c')) w') :
    wpList P ops Q (o :: rest) a (w.alloc (.cells #[u] e)) := by
  obtain ⟨i, hi, hz0, hz1, rfl⟩ := info_parts h2
  refine wpList_append_own_at (P := P) (w := w.alloc (.cells #[u] e)) hg s x t hop B e i z 1 i.bytes h1 hi hz0 hz1 rfl hz (by omega) (.slice ad n c) n vs hs (World.ownsRow.alloc hown _) ⟨w.heap.size, 0, none⟩ 1 1 [u] hx rfl
    (cell_one_new _ _ _) (by simpa using hu) (by unfold maxLen; omega) (by have := Nat.mul_le_mul (show n + 1 ≤ 1099511627776 by omega) hb; omega) (by simp; omega) ?_
  intro v' w' h3 h4 _ h6
  have hv : ∃ ad' c', v' = .slice ad' (n + 1) c' := by
    rcases h3.2 with ⟨_, h⟩ | ⟨g, cap, cur, hv, _⟩
    · omega
    · exact ⟨_, _, hv⟩
  obtain ⟨ad', c', rfl⟩ := hv
  have hgr : w.grownBy w' (Value.slice ad n c).ownBlock := ⟨h4.os, h4.tape, h4.output, by have := h4.size; simp at this; omega, fun k hk hne => by
    rw [h4.block k (by simp; omega) hne]; exact _root_.Go.RowKit.Below.heap_alloc w _ k hk⟩
  refine hK ad' c' w' h3 (Below.grown (Below.refl B w) hgr hB (fun k hk => (World.ownsRow.lt hown k hk).1)) hgr ?_
  rintro g rfl
  rcases h6 with h6 | h6
  · left
    cases ad with
    | none => simp [Value.ownBlock] at h6
    | some g' => simp [Value.ownBlock] at h6; exact ⟨g', rfl, h6.symm⟩
  · right
    simp [Value.ownBlock] at h6
    omega
end Go.Proofs.Ytccoopnoakhedaa
