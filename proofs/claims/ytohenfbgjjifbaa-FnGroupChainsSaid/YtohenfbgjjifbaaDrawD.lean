/- Plain: what a choice keeps; which chosen chains are valid. -/
import Derived.Test.YtohenfbgjjifbaaDraw
import Derived.Test.YtohenfbgjjifbaaChW
import Derived.Test.YtohenfbgjjifbaaSAt
namespace Go.Proofs.Ytohenfbgjjifbaa
set_option maxRecDepth 100000
open Go.RowKit

theorem OwnMat.touchNe {w w' : World} {B g : Nat} {E1 E0 : TypeId} {a : Option Addr} {n c : Nat} {ll : List (List Int)} (h : OwnMat w B E1 E0 a n c ll) (ht : Touch g w w') (hB : g < B) : OwnMat w' B E1 E0 a n c ll :=
  ⟨h.len, let ⟨vs, h1, h2⟩ := h.rows; ⟨vs, h1.touchNe ht hB, fun k hk => let ⟨a', n', c', h3, h4⟩ := h2 k hk; ⟨a', n', c', h3, h4.touchNe ht hB⟩⟩⟩
theorem OwnCube.touchNe {w w' : World} {B g : Nat} {E2 E1 E0 : TypeId} {a : Option Addr} {n c : Nat} {ll : List (List (List Int))} (h : OwnCube w B E2 E1 E0 a n c ll) (ht : Touch g w w') (hB : g < B) : OwnCube w' B E2 E1 E0 a n c ll :=
  ⟨h.len, let ⟨vs, h1, h2⟩ := h.rows; ⟨vs, h1.touchNe ht hB, fun k hk => let ⟨a', n', c', h3, h4⟩ := h2 k hk; ⟨a', n', c', h3, h4.touchNe ht hB⟩⟩⟩
/-- the rows of a table of a chain with S states and b symbols -/
def TabOk (S b : Int) (t : List (List Int)) : Prop := (t.length : Int) = S ∧ ∀ r ∈ t, (r.length : Int) = b ∧ ∀ d ∈ r, 0 ≤ d ∧ d < S
theorem TabOk.small {S b : Int} {t : List (List Int)} (h : TabOk S b t) (hS : S ≤ 36) (hb : b ≤ 36) : t.length ≤ 1048576 ∧ ∀ r ∈ t, r.length ≤ 1048576 :=
  ⟨by have := h.1; omega, fun r hr => by have := (h.2 r hr).1; omega⟩
/-- a chosen chain -/
structure DrawnCh (D : Ch) : Prop where
  b2 : 2 ≤ D.base
  b36 : D.base ≤ 10
  s1 : 1 ≤ D.states
  s36 : D.states ≤ 10
  st : 0 ≤ D.start ∧ D.start < D.states
  en : 0 ≤ D.fin ∧ D.fin < D.states
  t1 : 1 ≤ D.tabs.length
  t3 : D.tabs.length ≤ 3
  p1 : 1 ≤ D.places.length
  p5 : D.places.length ≤ 5
  ts : ∀ t ∈ D.tabs, TabOk D.states D.base t
  pl : ∀ k ∈ D.places, 0 ≤ k ∧ k < D.tabs.length
theorem DrawnCh.valid {D : Ch} (h : DrawnCh D) : validCh D = true := by
  have h1 := h.b2; have h2 := h.b36; have h3 := h.s1; have h4 := h.s36; have h5 := h.st; have h6 := h.en
  have h7 := h.t1; have h8 := h.t3; have h9 := h.p1; have h10 := h.p5
  have hp : D.base ^ D.places.length ≤ 1000000000000000 := by
    have e1 : D.base ^ D.places.length ≤ D.base ^ 5 := by
      obtain ⟨j, hj⟩ := Nat.exists_eq_add_of_le h10
      rw [hj, Int.pow_add]
      have g1 : 0 < D.base ^ D.places.length := Int.pow_pos (by omega)
      have g2 : 0 < D.base ^ j := Int.pow_pos (by omega)
      have : D.base ^ D.places.length * 1 ≤ D.base ^ D.places.length * D.base ^ j := Int.mul_le_mul_of_nonneg_left (by omega) (by omega)
      omega
    have e2 : D.base ^ 5 ≤ 100000 := by
      obtain ⟨b, hb⟩ := Int.eq_ofNat_of_zero_le (show 0 ≤ D.base by omega)
      rw [hb] at h2 ⊢
      have h2' : b ≤ 10 := by omega
      have : b ^ 5 ≤ 10 ^ 5 := Nat.pow_le_pow_left h2' 5
      have h3 : ((b ^ 5 : Nat) : Int) ≤ ((10 ^ 5 : Nat) : Int) := Int.ofNat_le.2 this
      rw [Int.natCast_pow] at h3
      exact h3
    omega
  unfold validCh headCh powCh tabsCh placesCh
  simp only [Bool.and_eq_true, List.all_eq_true, decide_eq_true_eq, inB_t]
  refine ⟨by omega, hp, fun t ht => ?_, fun k hk => by have := h.pl k hk; omega⟩
  unfold tabCh
  simp only [Bool.and_eq_true, List.all_eq_true, decide_eq_true_eq]
  refine ⟨(h.ts t ht).1, fun r hr => ?_⟩
  unfold rowCh
  simp only [Bool.and_eq_true, List.all_eq_true, decide_eq_true_eq, inB_t]
  exact ⟨((h.ts t ht).2 r hr).1, fun d hd => by have := ((h.ts t ht).2 r hr).2 d hd; omega⟩
theorem DrawnCh.small {D : Ch} (h : DrawnCh D) : SmallCh D := fun t ht => (h.ts t ht).small (by have := h.s36; omega) (by have := h.b36; omega)
end Go.Proofs.Ytohenfbgjjifbaa

/- Walks: a table of a chain is chosen. -/
namespace Go.Proofs.Ytohenfbgjjifbaa
set_option maxRecDepth 100000
open Go.RowKit

/-- a table, chosen -/
def RetTab (g : Nat) (a : Option Addr) (n c : Nat) (l : List UInt8) (k : Int) (S b : Nat) (w : World) (e : Ending) (w' : World) : Prop :=
  ∃ (ad : Option Addr) (cc : Nat) (t : List (List Int)) (k' : Int), e = .returned (.slice ad S cc) ∧ TabOk S b t ∧ OwnMat w' w.heap.size 28 2 ad S cc t ∧ SrcB w' g a n c l k' ∧ k ≤ k' ∧ k' ≤ k + 300 ∧ Touch g w w'
theorem all_snoc {α : Type} {p : α → Prop} {l : List α} {x : α} (h : ∀ y ∈ l, p y) (hx : p x) : ∀ y ∈ l ++ [x], p y := fun y hy => by
  rcases List.mem_append.1 hy with hy | hy
  · exact h y hy
  · obtain rfl := List.mem_singleton.1 hy; exact hx
theorem mul_bd {x y a b : Int} (h1 : 0 ≤ x) (h2 : x ≤ a) (h3 : 0 ≤ y) (h4 : y ≤ b) : 0 ≤ x * y ∧ x * y ≤ a * b :=
  ⟨Int.mul_nonneg h1 h3, Int.mul_le_mul h2 h4 h3 (by omega)⟩
theorem mod_bd {x S : Int} (hS : 1 ≤ S) : 0 ≤ x % S ∧ x % S < S := ⟨Int.emod_nonneg _ (by omega), Int.emod_lt_of_pos _ (by omega)⟩
end Go.Proofs.Ytohenfbgjjifbaa

/- Walks: a valid chain is chosen. -/
namespace Go.Proofs.Ytohenfbgjjifbaa
set_option maxRecDepth 100000
open Go.RowKit

theorem SAt.touch {w w' : World} {g q : Nat} {T : TypeId} {cs : Array Value} (h : SAt w q T cs) (ht : Touch g w w') (hne : q ≠ g) : SAt w' q T cs := (ht.block q h.lt hne).trans h
theorem Touch.keepB {g lo hi : Nat} {w w' : World} (h : Touch g w w') (hg : g < lo) (hh : hi ≤ w.heap.size) : KeepB lo hi w w' := fun x h1 h2 => h.block x (by omega) (by omega)
theorem Touch.keepB0 {g : Nat} {w w' : World} (h : Touch g w w') (hg : g < w.heap.size) : KeepB 0 g w w' := fun x _ h2 => h.block x (by omega) (by omega)
/-- half chosen: block q1 is for the result, block q2 holds the chain; the tables lie at Wi -/
structure DI (w : World) (g q1 q2 : Nat) (zv : Array Value) (b S st fi : Int) (v4 v5 : Value) (ad : Option Addr) (x cc : Nat) (vs : List Value) (tt : List (List (List Int))) (pd : Option Addr) (y pc : Nat) (pp : List Int) (Wi W : World) : Prop where
  z : SAt W q1 34 zv
  s : SAt W q2 34 #[.int .i64 b, .int .i64 S, .int .i64 st, .int .i64 fi, v4, v5]
  o : Own W w.heap.size 24 ad x cc vs
  i : ∀ j, j < x → ∃ a' n' c', gv vs j = .slice a' n' c' ∧ OwnMat Wi (q2 + 1) 28 2 a' n' c' (gm tt j)
  p : Own W w.heap.size 2 pd y pc (I pp)
  pb : ∀ a, pd = some a → a.block < q2 + 1 ∨ Wi.heap.size ≤ a.block
  h : Touch g w W
  k : KeepB (q2 + 1) Wi.heap.size Wi W
  le : Wi.heap.size ≤ W.heap.size
  gw : g < w.heap.size
  q : w.heap.size ≤ q1 ∧ q1 < q2
section
variable {w : World} {g q1 q2 : Nat} {zv : Array Value} {b S st fi : Int} {v4 v5 : Value} {ad : Option Addr} {x cc : Nat} {vs : List Value} {tt : List (List (List Int))} {pd : Option Addr} {y pc : Nat} {pp : List Int} {Wi W W' : World}
theorem DI.touch (d : DI w g q1 q2 zv b S st fi v4 v5 ad x cc vs tt pd y pc pp Wi W) (ht : Touch g W W') : DI w g q1 q2 zv b S st fi v4 v5 ad x cc vs tt pd y pc pp Wi W' := by
  have h1 := d.gw; have h2 := d.q
  exact ⟨d.z.touch ht (by omega), d.s.touch ht (by omega), d.o.touchNe ht h1, d.i, d.p.touchNe ht h1, d.pb, d.h.trans ht, d.k.trans (ht.keepB (by omega) d.le), Nat.le_trans d.le ht.size, h1, h2⟩
theorem DI.ext (d : DI w g q1 q2 zv b S st fi v4 v5 ad x cc vs tt pd y pc pp Wi W) (hx : Ext W W') : DI w g q1 q2 zv b S st fi v4 v5 ad x cc vs tt pd y pc pp Wi W' :=
  ⟨d.z.ext hx, d.s.ext hx, d.o.ext hx, d.i, d.p.ext hx, d.pb, d.h.ext hx, d.k.trans (KeepB.ext hx d.le), Nat.le_trans d.le hx.le, d.gw, d.q⟩
theorem DI.norm (d : DI w g q1 q2 zv b S st fi v4 v5 ad x cc vs tt pd y pc pp Wi W) (hp : ∀ a, pd = some a → a.block < q2 + 1) : DI w g q1 q2 zv b S st fi v4 v5 ad x cc vs tt pd y pc pp W W :=
  ⟨d.z, d.s, d.o, fun j hj => by obtain ⟨a', n', c', h1, h2⟩ := d.i j hj; exact ⟨a', n', c', h1, h2.keepB d.k⟩, d.p, fun a ha => .inl (hp a ha), d.h, KeepB.refl _ _ _, Nat.le_refl _, d.gw, d.q⟩
theorem DI.set (d : DI w g q1 q2 zv b S st fi v4 v5 ad x cc vs tt pd y pc pp Wi W) (j : Nat) (u : Value) {b' S' st' fi' : Int} {v4' v5' : Value} (he : (#[Value.int .i64 b, .int .i64 S, .int .i64 st, .int .i64 fi, v4, v5]).setIfInBounds j u = #[.int .i64 b', .int .i64 S', .int .i64 st', .int .i64 fi', v4', v5']) :
    DI w g q1 q2 zv b' S' st' fi' v4' v5' ad x cc vs tt pd y pc pp Wi (W.setCell ⟨q2, j, none⟩ u) := by
  have h2 := d.q
  have hs := d.s.set j u
  rw [he] at hs
  refine ⟨d.z.other u (by simp; omega), hs, d.o.setS d.s (by decide) j u, d.i, d.p.setS d.s (by decide) j u, d.pb, d.h.below (Below.setCell (Below.refl w.heap.size _) (by simp only; omega) u) (Nat.le_refl _), d.k.trans (fun x h1 h3 => ?_), ?_, d.gw, h2⟩
  · exact Below.heap_setCell W ⟨q2, j, none⟩ u x (by simp only; omega)
  · have := d.le; simpa [World.setCell] using this
theorem DI.setZ (d : DI w g q1 q2 zv b S st fi v4 v5 ad x cc vs tt pd y pc pp Wi W) (j : Nat) (u : Value) : DI w g q1 q2 (zv.setIfInBounds j u) b S st fi v4 v5 ad x cc vs tt pd y pc pp Wi (W.setCell ⟨q1, j, none⟩ u) := by
  have h2 := d.q
  refine ⟨d.z.set j u, d.s.other u (by simp; omega), d.o.setS d.z (by decide) j u, d.i, d.p.setS d.z (by decide) j u, d.pb, d.h.below (Below.setCell (Below.refl w.heap.size _) (by simp only; omega) u) (Nat.le_refl _), d.k.trans (fun x h1 h3 => ?_), ?_, d.gw, h2⟩
  · exact Below.heap_setCell W ⟨q1, j, none⟩ u x (by simp only; omega)
  · have := d.le; simpa [World.setCell] using this
/-- a table more -/
theorem DI.app (d : DI w g q1 q2 zv b S st fi v4 v5 ad x cc vs tt pd y pc pp W W) {ad' a1 : Option Addr} {cc' n1 c1 : Nat} {t : List (List Int)} (htl : tt.length = x) (hp : ∀ a, pd = some a → a.block < q2 + 1) (hnew : OwnMat W (q2 + 1) 28 2 a1 n1 c1 t)
    (hb : Below w.heap.size W W') (hg : W.grownBy W' (Value.slice ad x cc).ownBlock) (ho : Own W' w.heap.size 24 ad' (x + 1) cc' (vs ++ [.slice a1 n1 c1])) :
    DI w g q1 q2 zv b S st fi v4 v5 ad' (x + 1) cc' (vs ++ [.slice a1 n1 c1]) (tt ++ [t]) pd y pc pp W' W' := by
  have hvl := d.o.len
  refine ⟨d.z.grown hg (row_ne_s (d.o.ne_s d.z (by decide))), d.s.grown hg (row_ne_s (d.o.ne_s d.s (by decide))), ho, fun j hj => ?_, d.p.grownT d.o hg (by decide), fun a ha => .inl (hp a ha), d.h.below hb (Nat.le_refl _), KeepB.refl _ _ _, Nat.le_refl _, d.gw, d.q⟩
  by_cases h : j < x
  · obtain ⟨a', n', c', h1, h2⟩ := d.i j h
    exact ⟨a', n', c', (gv_lt (by omega)).trans h1, by rw [gm_lt (by omega)]; exact h2.grownT d.o hg (by decide) (by decide)⟩
  · obtain rfl : j = x := by omega
    exact ⟨a1, n1, c1, gv_last hvl, by rw [gm_last htl]; exact hnew.grownT d.o hg (by decide) (by decide)⟩
/-- a place more -/
theorem DI.put (d : DI w g q1 q2 zv b S st fi v4 v5 ad x cc vs tt pd y pc pp Wi W) {pd' : Option Addr} {pc' : Nat} {u : Int}
    (hb : Below w.heap.size W W') (hg : W.grownBy W' (Value.slice pd y pc).ownBlock) (ho : Own W' w.heap.size 2 pd' (y + 1) pc' (I pp ++ [.int .i64 u])) (hk : ∀ a, pd' = some a → (∃ a', pd = some a' ∧ a'.block = a.block) ∨ W.heap.size ≤ a.block) :
    DI w g q1 q2 zv b S st fi v4 v5 ad x cc vs tt pd' (y + 1) pc' (pp ++ [u]) Wi W' := by
  refine ⟨d.z.grown hg (row_ne_s (d.p.ne_s d.z (by decide))), d.s.grown hg (row_ne_s (d.p.ne_s d.s (by decide))), d.o.grownT d.p hg (by decide), d.i, by rw [I_append]; exact ho, fun a ha => ?_, d.h.below hb (Nat.le_refl _), d.k.trans (fun r h1 h2 => ?_), Nat.le_trans d.le hg.size, d.gw, d.q⟩
  · rcases hk a ha with ⟨a', h1, h2⟩ | h1
    · have := d.pb a' h1; omega
    · have := d.le; exact .inr (by omega)
  · refine hg.block r (by have := d.le; omega) ?_
    cases hpd : pd with
    | none => simp [Value.ownBlock]
    | some a' =>
      have := d.pb a' hpd
      simp [Value.ownBlock]
      omega
theorem DI.cube (d : DI w g q1 q2 zv b S st fi v4 v5 ad x cc vs tt pd y pc pp Wi W) (htl : tt.length = x) : Cube W ad x cc tt :=
  ⟨htl, vs, d.o.sl, fun j hj => by obtain ⟨a', n', c', h1, h2⟩ := d.i j hj; exact ⟨a', n', c', h1, (h2.keepB d.k).mat⟩⟩
end
/-- a chain, chosen -/
def RetDrCh (g : Nat) (a : Option Addr) (n c : Nat) (l : List UInt8) (k : Int) (b p : Nat) (w : World) (e : Ending) (w' : World) : Prop :=
  ∃ (D : Ch) (ad : Option Addr) (x cc : Nat) (pd : Option Addr) (pc : Nat) (k' : Int), e = .returned (.agg #[.int .i64 D.base, .int .i64 D.states, .int .i64 D.start, .int .i64 D.fin, .slice ad x cc, .slice pd p pc]) ∧ DrawnCh D ∧ D.base = b ∧ D.places.length = p ∧ x ≤ 3 ∧
    (∀ W, KeepB w.heap.size w'.heap.size w' W → ChIn W D ad x cc pd p pc) ∧ SrcB w' g a n c l k' ∧ k ≤ k' ∧ k' ≤ k + 1000 ∧ Touch g w w'
theorem DI.chIn {w : World} {g q1 q2 : Nat} {zv : Array Value} {b S st fi : Int} {v4 v5 : Value} {ad : Option Addr} {x cc : Nat} {vs : List Value} {tt : List (List (List Int))} {pd : Option Addr} {y pc : Nat} {pp : List Int} {Wi W : World}
    (d : DI w g q1 q2 zv b S st fi v4 v5 ad x cc vs tt pd y pc pp Wi W) (htl : tt.length = x) (hx : x ≤ 3) (hy : y ≤ 5) (hsm : SmallCh ⟨b, S, st, fi, tt, pp⟩) (W2 : World) (hk : KeepB w.heap.size W.heap.size W W2) : ChIn W2 ⟨b, S, st, fi, tt, pp⟩ ad x cc pd y pc :=
  ⟨⟨htl, vs, (d.o.keepB hk).sl, fun j hj => by obtain ⟨a', n', c', h1, h2⟩ := d.i j hj; exact ⟨a', n', c', h1, (h2.keepB (d.k.trans (hk.mono (by have := d.q; omega) d.le))).mat⟩⟩, (d.p.keepB hk).ints, by omega, by omega, hsm⟩
theorem info_cube1 : (Try.prog.info? 24).map (fun i => (i.zero, i.size, i.bytes)) = some (some (.slice none 0 0), 1, 24) := by kernel_rfl
theorem und_cube1 : Try.prog.underlying 32 = some (.slice 24) := by kernel_rfl
end Go.Proofs.Ytohenfbgjjifbaa
