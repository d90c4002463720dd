/- Plain: what a choice keeps; which chosen chains are valid. -/
import Derived.Test.YtccoopnoakhedaaDraw
import Derived.Test.YtccoopnoakhedaaChW
import Derived.Test.YtccoopnoakhedaaSAt
namespace Go.Proofs.Ytccoopnoakhedaa
set_option maxRecDepth 100000
open Go.RowKit

theorem OwnMat.touchNe {w w' : World} {B g : Nat} {E1 E0 : TypeId} {a : Option Addr} {n c : Nat} {ll : List (List Int)} (h : OwnMat w B E1 E0 a n c ll) (ht : Touch g w w') (hB : g < B) : OwnMat w' B E1 E0 a n c ll :=
  ⟨h.len, let ⟨vs, h1, h2⟩ := h.rows; ⟨vs, h1.touchNe ht hB, fun k hk => let ⟨a', n', c', h3, h4⟩ := h2 k hk; ⟨a', n', c', h3, h4.touchNe ht hB⟩⟩⟩
theorem OwnCube.touchNe {w w' : World} {B g : Nat} {E2 E1 E0 : TypeId} {a : Option Addr} {n c : Nat} {ll : List (List (List Int))} (h : OwnCube w B E2 E1 E0 a n c ll) (ht : Touch g w w') (hB : g < B) : OwnCube w' B E2 E1 E0 a n c ll :=
  ⟨h.len, let ⟨vs, h1, h2⟩ := h.rows; ⟨vs, h1.touchNe ht hB, fun k hk => let ⟨a', n', c', h3, h4⟩ := h2 k hk; ⟨a', n', c', h3, h4.touchNe ht hB⟩⟩⟩
/-- the rows of a table of a chain with S states and b symbols -/
def TabOk (S b : Int) (t : List (List Int)) : Prop := (t.length : Int) = S ∧ ∀ r ∈ t, (r.length : Int) = b ∧ ∀ d ∈ r, 0 ≤ d ∧ d < S
theorem TabOk.small {S b : Int} {t : List (List Int)} (h : TabOk S b t) (hS : S ≤ 36) (hb : b ≤ 36) : t.length ≤ 1048576 ∧ ∀ r ∈ t, r.length ≤ 1048576 :=
  ⟨by have := h.1; omega, fun r hr => by have := (h.2 r hr).1; omega⟩
/-- a chosen chain -/
structure DrawnCh (D : Ch) : Prop where
  b2 : 2 ≤ D.base
  b36 : D.base ≤ 10
  s1 : 1 ≤ D.states
  s36 : D.states ≤ 10
  st : 0 ≤ D.start ∧ D.start < D.states
  en : 0 ≤ D.fin ∧ D.fin < D.states
  t1 : 1 ≤ D.tabs.length
  t3 : D.tabs.length ≤ 3
  p1 : 1 ≤ D.places.length
  p5 : D.places.length ≤ 5
  ts : ∀ t ∈ D.tabs, TabOk D.states D.base t
  pl : ∀ k ∈ D.places, 0 ≤ k ∧ k < D.tabs.length
theorem DrawnCh.valid {D : Ch} (h : DrawnCh D) : validCh D = true := by
  have h1 := h.b2; have h2 := h.b36; have h3 := h.s1; have h4 := h.s36; have h5 := h.st; have h6 := h.en
  have h7 := h.t1; have h8 := h.t3; have h9 := h.p1; have h10 := h.p5
  have hp : D.base ^ D.places.length ≤ 1000000000000000 := by
    have e1 : D.base ^ D.places.length ≤ D.base ^ 5 := by
      obtain ⟨j, hj⟩ := Nat.exists_eq_add_of_le h10
      rw [hj, Int.pow_add]
      have g1 : 0 < D.base ^ D.places.length := Int.pow_pos (by omega)
      have g2 : 0 < D.base ^ j := Int.pow_pos (by omega)
      have : D.base ^ D.places.length * 1 ≤ D.base ^ D.places.length * D.base ^ j := Int.mul_le_mul_of_nonneg_left (by omega) (by omega)
      omega
    have e2 : D.base ^ 5 ≤ 100000 := by
      obtain ⟨b, hb⟩ := Int.eq_ofNat_of_zero_le (show 0 ≤ D.base by omega)
      rw [hb] at h2 ⊢
      have h2' : b ≤ 10 := by omega
      have : b ^ 5 ≤ 10 ^ 5 := Nat.pow_le_pow_left h2' 5
      have h3 : ((b ^ 5 : Nat) : Int) ≤ ((10 ^ 5 : Nat) : Int) := Int.ofNat_le.2 this
      rw [Int.natCast_pow] at h3
      exact h3
    omega
  unfold validCh headCh powCh tabsCh placesCh
  simp only [Bool.and_eq_true, List.all_eq_true, decide_eq_true_eq, inB_t]
  refine ⟨by omega, hp, fun t ht => ?_, fun k hk => by have := h.pl k hk; omega⟩
  unfold tabCh
  simp only [Bool.and_eq_true, List.all_eq_true, decide_eq_true_eq]
  refine ⟨(h.ts t ht).1, fun r hr => ?_⟩
  unfold rowCh
  simp only [Bool.and_eq_true, List.all_eq_true, decide_eq_true_eq, inB_t]
  exact ⟨((h.ts t ht).2 r hr).1, fun d hd => by have := ((h.ts t ht).2 r hr).2 d hd; omega⟩
theorem DrawnCh.small {D : Ch} (h : DrawnCh D) : SmallCh D := fun t ht => (h.ts t ht).small (by have := h.s36; omega) (by have := h.b36; omega)
end Go.Proofs.Ytccoopnoakhedaa

/- Walks: a table of a chain is chosen. -/
namespace Go.Proofs.Ytccoopnoakhedaa
set_option maxRecDepth 100000
open Go.RowKit

/-- a table, chosen -/
def RetTab (g : Nat) (a : Option Addr) (n c : Nat) (l : List UInt8) (k : Int) (S b : Nat) (w : World) (e : Ending) (w' : World) : Prop :=
  ∃ (ad : Option Addr) (cc : Nat) (t : List (List Int)) (k' : Int), e = .returned (.slice ad S cc) ∧ TabOk S b t ∧ OwnMat w' w.heap.size 25 2 ad S cc t ∧ SrcB w' g a n c l k' ∧ k ≤ k' ∧ k' ≤ k + 300 ∧ Touch g w w'
theorem all_snoc {α : Type} {p : α → Prop} {l : List α} {x : α} (h : ∀ y ∈ l, p y) (hx : p x) : ∀ y ∈ l ++ [x], p y := fun y hy => by
  rcases List.mem_append.1 hy with hy | hy
  · exact h y hy
  · obtain rfl := List.mem_singleton.1 hy; exact hx
theorem mul_bd {x y a b : Int} (h1 : 0 ≤ x) (h2 : x ≤ a) (h3 : 0 ≤ y) (h4 : y ≤ b) : 0 ≤ x * y ∧ x * y ≤ a * b :=
  ⟨Int.mul_nonneg h1 h3, Int.mul_le_mul h2 h4 h3 (by omega)⟩
theorem mod_bd {x S : Int} (hS : 1 ≤ S) : 0 ≤ x % S ∧ x % S < S := ⟨Int.emod_nonneg _ (by omega), Int.emod_lt_of_pos _ (by omega)⟩
set_option maxHeartbeats 2000000 in
theorem spec_drawTable (g : Nat) (a : Option Addr) (n c : Nat) (l : List UInt8) (k : Int) (S b : Nat) (w : World) (h : SrcB w g a n c l k) (hk : 0 ≤ k) (hk2 : k ≤ 999000000) (hS : 1 ≤ S) (hS2 : S ≤ 10) (hb : b ≤ 10) :
    Calls Try.prog 35 #[.pointer (some ⟨g, 0, none⟩), .int .i64 S, .int .i64 b] w (RetTab g a n c l k S b w) := by
  have hgw := h.g
  have HP := Lib.hid (pick_b g a n c l k 4 w h hk (by omega) (by omega))
  clear h
  go_enter Try.func35, Try.ntmps35
  go_wp2_with (refine HP.out.mono ?_)
  rintro e w1 ⟨kind, k1, rfl, hkd, _, hs1, hk1, hk1', ht1⟩
  have HP1 := Lib.hid (pick_b g a n c l k1 (S : Int) w1 hs1 (by omega) (by omega) (by omega))
  have HT1 := Lib.hid ht1
  clear hs1 ht1
  go_wp2_with (refine HP1.out.mono ?_)
  rintro e w2 ⟨y0, k2, rfl, hy0, hy1, hs2, hk2', hk2'', ht2⟩
  have HT2 := Lib.hid (HT1.out.trans ht2)
  have HS2 := Lib.hid hs2
  have hw2 : w.heap.size ≤ w2.heap.size := HT2.out.size
  have hby : 1 ≤ 1 + y0 ∧ 1 + y0 ≤ 10 := by omega
  obtain ⟨y, hyy⟩ : ∃ y : Nat, 1 + y0 = (y : Int) := Int.eq_ofNat_of_zero_le (by omega)
  have hyb : y ≤ 10 := by omega
  clear hs2 ht2
  go_wp2
  clear hyy hby hy0 hy1
  go_loopw [9, 10, 11, 12, 13] (fun tb xi _ _ _ wr => ∃ (x : Nat) (ad : Option Addr) (cc : Nat) (tt : List (List Int)) (kk : Int), x ≤ S ∧ xi = .int .i64 x ∧ tb = .slice ad x cc ∧ Hid (∀ r ∈ tt, (r.length : Int) = b ∧ ∀ d ∈ r, 0 ≤ d ∧ d < (S : Int)) ∧
      Hid (OwnMat wr w.heap.size 25 2 ad x cc tt) ∧ Hid (SrcB wr g a n c l kk) ∧ k ≤ kk ∧ kk ≤ k + 4 + 20 * x ∧ Hid (Touch g w wr)) (fun _ xi _ _ _ _ => S - (intOf xi).toNat)
  case atStart => exact ⟨0, _, _, [], k2, Nat.zero_le _, rfl, rfl, (fun r hr => by cases hr), (OwnMat.lit0 w2 _ _).mono hw2, HS2.out.ext ((Ext.refl _).alloc _), by omega, by omega, HT2.out.ext ((Ext.refl _).alloc _)⟩
  case round =>
    obtain ⟨x, ad, cc, tt, kk, hx, rfl, rfl, HR, HM, HS, hka, hkb, HT⟩ := hrel
    have hwr : w.heap.size ≤ wr.heap.size := HT.out.size
    by_cases hlt : x < S
    · obtain ⟨wo, hwo⟩ : ∃ wo, wo = wr := ⟨_, rfl⟩
      subst hwo
      go_wp2
      go_loopw [11, 12, 13] (fun rw di _ wr => ∃ (d : Nat) (ar : Option Addr) (cr : Nat) (rr : List Int) (kq : Int), d ≤ b ∧ di = .int .i64 d ∧ rw = .slice ar d cr ∧ Hid (rr.length = d) ∧ Hid (∀ z ∈ rr, 0 ≤ z ∧ z < (S : Int)) ∧
        Hid (Own wr wo.heap.size 2 ar d cr (I rr)) ∧ Hid (SrcB wr g a n c l kq) ∧ k ≤ kq ∧ kq ≤ kk + 2 * d ∧ Hid (Touch g wo wr)) (fun _ di _ _ => b - (intOf di).toNat)
      case atStart => exact ⟨0, _, _, [], kk, Nat.zero_le _, rfl, rfl, rfl, (fun z hz => by cases hz), (Own.lit0 _ _), HS.out.ext ((Ext.refl _).alloc _), hka, by omega, (Touch.refl _ _).ext ((Ext.refl _).alloc _)⟩
      case round =>
        obtain ⟨d, ar, cr, rr, kq, hd, rfl, rfl, HLr, HZ, HOr, HS, hkc, hkd', HT2⟩ := hrel
        have hwr2 : wo.heap.size ≤ wr.heap.size := HT2.out.size
        have hgo : g < wo.heap.size := by omega
        by_cases hld : d < b
        · have hm1 : 0 ≤ (y : Int) * (d : Int) ∧ (y : Int) * (d : Int) ≤ 10 * 10 := mul_bd (by omega) (by omega) (by omega) (by omega)
          have hm2 : 0 ≤ (y : Int) * (x : Int) ∧ (y : Int) * (x : Int) ≤ 10 * 10 := mul_bd (by omega) (by omega) (by omega) (by omega)
          have HPk := Lib.hid (pick_b g a n c l kq (S : Int) wr HS.out (by omega) (by omega) (by omega))
          have hS' : 1 ≤ (S : Int) := by omega
          by_cases h0 : kind = 0
          · subst h0
            go_wp2_with (refine HPk.out.mono ?_)
            rintro e w3 ⟨z, k3, rfl, hz0, hz1, hs3, hk3, hk3', ht3⟩
            have HT3 := Lib.hid (HT2.out.trans ht3)
            have HOr3 := Lib.hid (HOr.out.touchNe ht3 hgo)
            have HS3 := Lib.hid hs3
            have hw3 : wo.heap.size ≤ w3.heap.size := HT3.out.size
            have hzz : 0 ≤ z ∧ z < (S : Int) := by omega
            clear hs3 ht3 hz0 hz1 HOr HS HPk
            go_wp2_with (at_builtin; refine law_append1 _ rfl _ _ 25 rfl 2 (.int .i64 0) 8 und_int64s info_int64 rfl wo.heap.size ar d cr _ _ rfl rfl rfl HOr3.out hw3 (by omega) (by omega) ?_; intro ar' cr' w4 ho4 hb4 hg4)
            exact ⟨⟨d + 1, ar', cr', rr ++ [z], k3, by omega, by go_num, rfl, by rw [Hid, List.length_append, HLr.out]; rfl, by rw [Hid]; exact all_snoc HZ.out hzz, by rw [Hid, I_append]; exact ho4, HS3.out.below hb4 hgo, by omega, by omega, HT3.out.below hb4 (Nat.le_refl _)⟩, by simp [intOf]; omega⟩
          · have hz1 := mod_bd (x := (y : Int) * (x : Int) + (d : Int)) hS'
            have hz2 := mod_bd (x := (x : Int) + (y : Int) * (d : Int)) hS'
            by_cases h1 : kind = 1
            · subst h1
              go_wp2_with (at_builtin; refine law_append1 _ rfl _ _ 25 rfl 2 (.int .i64 0) 8 und_int64s info_int64 rfl wo.heap.size ar d cr _ _ rfl rfl rfl HOr.out hwr2 (by omega) (by omega) ?_; intro ar' cr' w4 ho4 hb4 hg4)
              exact ⟨⟨d + 1, ar', cr', rr ++ [_], kq, by omega, by go_num, rfl, by rw [Hid, List.length_append, HLr.out]; rfl, by rw [Hid]; exact all_snoc HZ.out hz1, by rw [Hid, I_append]; exact ho4, HS.out.below hb4 hgo, by omega, by omega, HT2.out.below hb4 (Nat.le_refl _)⟩, by simp [intOf]; omega⟩
            · go_wp2_with (at_builtin; refine law_append1 _ rfl _ _ 25 rfl 2 (.int .i64 0) 8 und_int64s info_int64 rfl wo.heap.size ar d cr _ _ rfl rfl rfl HOr.out hwr2 (by omega) (by omega) ?_; intro ar' cr' w4 ho4 hb4 hg4)
              exact ⟨⟨d + 1, ar', cr', rr ++ [_], kq, by omega, by go_num, rfl, by rw [Hid, List.length_append, HLr.out]; rfl, by rw [Hid]; exact all_snoc HZ.out hz2, by rw [Hid, I_append]; exact ho4, HS.out.below hb4 hgo, by omega, by omega, HT2.out.below hb4 (Nat.le_refl _)⟩, by simp [intOf]; omega⟩
        · obtain rfl : d = b := by omega
          have HT4 := Lib.hid (HT.out.trans HT2.out)
          have HM4 := Lib.hid (HM.out.touchNe HT2.out hgw)
          have HO4 := Lib.hid (HOr.out.mono hwr)
          have hw4 : w.heap.size ≤ wr.heap.size := HT4.out.size
          obtain ⟨vs, hvs, hps⟩ := HM4.out.rows
          have HV := Lib.hid hvs
          have HPS := Lib.hid hps
          clear hvs hps HOr HT2 HT HM
          go_wp2_with (at_builtin; refine law_append1 _ rfl _ _ 53 rfl 25 (.slice none 0 0) 24 und_rows info_row1 rfl w.heap.size ad x cc _ _ rfl rfl rfl HV.out hw4 (by omega) (by omega) ?_; intro ad' cc' w5 ho5 hb5 hg5)
          exact ⟨⟨x + 1, ad', cc', tt ++ [rr], kq, by omega, by go_num, rfl, by rw [Hid]; exact all_snoc HR.out ⟨by rw [HLr.out], HZ.out⟩, OwnMat.push HM4.out.len HPS.out HV.out HO4.out ho5 hg5 (by decide), HS.out.below hb5 hgw, by omega, by omega, HT4.out.below hb5 (Nat.le_refl _)⟩, by simp [intOf]; omega⟩
    · obtain rfl : x = S := by omega
      go_wp2
      go_ret
      exact ⟨ad, cc, tt, kk, rfl, ⟨by rw [HM.out.len], HR.out⟩, HM.out, HS.out, hka, by omega, HT.out⟩
end Go.Proofs.Ytccoopnoakhedaa

/- Walks: a valid chain is chosen. -/
namespace Go.Proofs.Ytccoopnoakhedaa
set_option maxRecDepth 100000
open Go.RowKit

theorem SAt.touch {w w' : World} {g q : Nat} {T : TypeId} {cs : Array Value} (h : SAt w q T cs) (ht : Touch g w w') (hne : q ≠ g) : SAt w' q T cs := (ht.block q h.lt hne).trans h
theorem Touch.keepB {g lo hi : Nat} {w w' : World} (h : Touch g w w') (hg : g < lo) (hh : hi ≤ w.heap.size) : KeepB lo hi w w' := fun x h1 h2 => h.block x (by omega) (by omega)
theorem Touch.keepB0 {g : Nat} {w w' : World} (h : Touch g w w') (hg : g < w.heap.size) : KeepB 0 g w w' := fun x _ h2 => h.block x (by omega) (by omega)
/-- half chosen: block q1 is for the result, block q2 holds the chain; the tables lie at Wi -/
structure DI (w : World) (g q1 q2 : Nat) (zv : Array Value) (b S st fi : Int) (v4 v5 : Value) (ad : Option Addr) (x cc : Nat) (vs : List Value) (tt : List (List (List Int))) (pd : Option Addr) (y pc : Nat) (pp : List Int) (Wi W : World) : Prop where
  z : SAt W q1 27 zv
  s : SAt W q2 27 #[.int .i64 b, .int .i64 S, .int .i64 st, .int .i64 fi, v4, v5]
  o : Own W w.heap.size 53 ad x cc vs
  i : ∀ j, j < x → ∃ a' n' c', gv vs j = .slice a' n' c' ∧ OwnMat Wi (q2 + 1) 25 2 a' n' c' (gm tt j)
  p : Own W w.heap.size 2 pd y pc (I pp)
  pb : ∀ a, pd = some a → a.block < q2 + 1 ∨ Wi.heap.size ≤ a.block
  h : Touch g w W
  k : KeepB (q2 + 1) Wi.heap.size Wi W
  le : Wi.heap.size ≤ W.heap.size
  gw : g < w.heap.size
  q : w.heap.size ≤ q1 ∧ q1 < q2
section
variable {w : World} {g q1 q2 : Nat} {zv : Array Value} {b S st fi : Int} {v4 v5 : Value} {ad : Option Addr} {x cc : Nat} {vs : List Value} {tt : List (List (List Int))} {pd : Option Addr} {y pc : Nat} {pp : List Int} {Wi W W' : World}
theorem DI.touch (d : DI w g q1 q2 zv b S st fi v4 v5 ad x cc vs tt pd y pc pp Wi W) (ht : Touch g W W') : DI w g q1 q2 zv b S st fi v4 v5 ad x cc vs tt pd y pc pp Wi W' := by
  have h1 := d.gw; have h2 := d.q
  exact ⟨d.z.touch ht (by omega), d.s.touch ht (by omega), d.o.touchNe ht h1, d.i, d.p.touchNe ht h1, d.pb, d.h.trans ht, d.k.trans (ht.keepB (by omega) d.le), Nat.le_trans d.le ht.size, h1, h2⟩
theorem DI.ext (d : DI w g q1 q2 zv b S st fi v4 v5 ad x cc vs tt pd y pc pp Wi W) (hx : Ext W W') : DI w g q1 q2 zv b S st fi v4 v5 ad x cc vs tt pd y pc pp Wi W' :=
  ⟨d.z.ext hx, d.s.ext hx, d.o.ext hx, d.i, d.p.ext hx, d.pb, d.h.ext hx, d.k.trans (KeepB.ext hx d.le), Nat.le_trans d.le hx.le, d.gw, d.q⟩
theorem DI.norm (d : DI w g q1 q2 zv b S st fi v4 v5 ad x cc vs tt pd y pc pp Wi W) (hp : ∀ a, pd = some a → a.block < q2 + 1) : DI w g q1 q2 zv b S st fi v4 v5 ad x cc vs tt pd y pc pp W W :=
  ⟨d.z, d.s, d.o, fun j hj => by obtain ⟨a', n', c', h1, h2⟩ := d.i j hj; exact ⟨a', n', c', h1, h2.keepB d.k⟩, d.p, fun a ha => .inl (hp a ha), d.h, KeepB.refl _ _ _, Nat.le_refl _, d.gw, d.q⟩
theorem DI.set (d : DI w g q1 q2 zv b S st fi v4 v5 ad x cc vs tt pd y pc pp Wi W) (j : Nat) (u : Value) {b' S' st' fi' : Int} {v4' v5' : Value} (he : (#[Value.int .i64 b, .int .i64 S, .int .i64 st, .int .i64 fi, v4, v5]).setIfInBounds j u = #[.int .i64 b', .int .i64 S', .int .i64 st', .int .i64 fi', v4', v5']) :
    DI w g q1 q2 zv b' S' st' fi' v4' v5' ad x cc vs tt pd y pc pp Wi (W.setCell ⟨q2, j, none⟩ u) := by
  have h2 := d.q
  have hs := d.s.set j u
  rw [he] at hs
  refine ⟨d.z.other u (by simp; omega), hs, d.o.setS d.s (by decide) j u, d.i, d.p.setS d.s (by decide) j u, d.pb, d.h.below (Below.setCell (Below.refl w.heap.size _) (by simp only; omega) u) (Nat.le_refl _), d.k.trans (fun x h1 h3 => ?_), ?_, d.gw, h2⟩
  · exact Below.heap_setCell W ⟨q2, j, none⟩ u x (by simp only; omega)
  · have := d.le; simpa [World.setCell] using this
theorem DI.setZ (d : DI w g q1 q2 zv b S st fi v4 v5 ad x cc vs tt pd y pc pp Wi W) (j : Nat) (u : Value) : DI w g q1 q2 (zv.setIfInBounds j u) b S st fi v4 v5 ad x cc vs tt pd y pc pp Wi (W.setCell ⟨q1, j, none⟩ u) := by
  have h2 := d.q
  refine ⟨d.z.set j u, d.s.other u (by simp; omega), d.o.setS d.z (by decide) j u, d.i, d.p.setS d.z (by decide) j u, d.pb, d.h.below (Below.setCell (Below.refl w.heap.size _) (by simp only; omega) u) (Nat.le_refl _), d.k.trans (fun x h1 h3 => ?_), ?_, d.gw, h2⟩
  · exact Below.heap_setCell W ⟨q1, j, none⟩ u x (by simp only; omega)
  · have := d.le; simpa [World.setCell] using this
/-- a table more -/
theorem DI.app (d : DI w g q1 q2 zv b S st fi v4 v5 ad x cc vs tt pd y pc pp W W) {ad' a1 : Option Addr} {cc' n1 c1 : Nat} {t : List (List Int)} (htl : tt.length = x) (hp : ∀ a, pd = some a → a.block < q2 + 1) (hnew : OwnMat W (q2 + 1) 25 2 a1 n1 c1 t)
    (hb : Below w.heap.size W W') (hg : W.grownBy W' (Value.slice ad x cc).ownBlock) (ho : Own W' w.heap.size 53 ad' (x + 1) cc' (vs ++ [.slice a1 n1 c1])) :
    DI w g q1 q2 zv b S st fi v4 v5 ad' (x + 1) cc' (vs ++ [.slice a1 n1 c1]) (tt ++ [t]) pd y pc pp W' W' := by
  have hvl := d.o.len
  refine ⟨d.z.grown hg (row_ne_s (d.o.ne_s d.z (by decide))), d.s.grown hg (row_ne_s (d.o.ne_s d.s (by decide))), ho, fun j hj => ?_, d.p.grownT d.o hg (by decide), fun a ha => .inl (hp a ha), d.h.below hb (Nat.le_refl _), KeepB.refl _ _ _, Nat.le_refl _, d.gw, d.q⟩
  by_cases h : j < x
  · obtain ⟨a', n', c', h1, h2⟩ := d.i j h
    exact ⟨a', n', c', (gv_lt (by omega)).trans h1, by rw [gm_lt (by omega)]; exact h2.grownT d.o hg (by decide) (by decide)⟩
  · obtain rfl : j = x := by omega
    exact ⟨a1, n1, c1, gv_last hvl, by rw [gm_last htl]; exact hnew.grownT d.o hg (by decide) (by decide)⟩
/-- a place more -/
theorem DI.put (d : DI w g q1 q2 zv b S st fi v4 v5 ad x cc vs tt pd y pc pp Wi W) {pd' : Option Addr} {pc' : Nat} {u : Int}
    (hb : Below w.heap.size W W') (hg : W.grownBy W' (Value.slice pd y pc).ownBlock) (ho : Own W' w.heap.size 2 pd' (y + 1) pc' (I pp ++ [.int .i64 u])) (hk : ∀ a, pd' = some a → (∃ a', pd = some a' ∧ a'.block = a.block) ∨ W.heap.size ≤ a.block) :
    DI w g q1 q2 zv b S st fi v4 v5 ad x cc vs tt pd' (y + 1) pc' (pp ++ [u]) Wi W' := by
  refine ⟨d.z.grown hg (row_ne_s (d.p.ne_s d.z (by decide))), d.s.grown hg (row_ne_s (d.p.ne_s d.s (by decide))), d.o.grownT d.p hg (by decide), d.i, by rw [I_append]; exact ho, fun a ha => ?_, d.h.below hb (Nat.le_refl _), d.k.trans (fun r h1 h2 => ?_), Nat.le_trans d.le hg.size, d.gw, d.q⟩
  · rcases hk a ha with ⟨a', h1, h2⟩ | h1
    · have := d.pb a' h1; omega
    · have := d.le; exact .inr (by omega)
  · refine hg.block r (by have := d.le; omega) ?_
    cases hpd : pd with
    | none => simp [Value.ownBlock]
    | some a' =>
      have := d.pb a' hpd
      simp [Value.ownBlock]
      omega
theorem DI.cube (d : DI w g q1 q2 zv b S st fi v4 v5 ad x cc vs tt pd y pc pp Wi W) (htl : tt.length = x) : Cube W ad x cc tt :=
  ⟨htl, vs, d.o.sl, fun j hj => by obtain ⟨a', n', c', h1, h2⟩ := d.i j hj; exact ⟨a', n', c', h1, (h2.keepB d.k).mat⟩⟩
end
/-- a chain, chosen -/
def RetDrCh (g : Nat) (a : Option Addr) (n c : Nat) (l : List UInt8) (k : Int) (b p : Nat) (w : World) (e : Ending) (w' : World) : Prop :=
  ∃ (D : Ch) (ad : Option Addr) (x cc : Nat) (pd : Option Addr) (pc : Nat) (k' : Int), e = .returned (.agg #[.int .i64 D.base, .int .i64 D.states, .int .i64 D.start, .int .i64 D.fin, .slice ad x cc, .slice pd p pc]) ∧ DrawnCh D ∧ D.base = b ∧ D.places.length = p ∧ x ≤ 3 ∧
    (∀ W, KeepB w.heap.size w'.heap.size w' W → ChIn W D ad x cc pd p pc) ∧ SrcB w' g a n c l k' ∧ k ≤ k' ∧ k' ≤ k + 1000 ∧ Touch g w w'
theorem DI.chIn {w : World} {g q1 q2 : Nat} {zv : Array Value} {b S st fi : Int} {v4 v5 : Value} {ad : Option Addr} {x cc : Nat} {vs : List Value} {tt : List (List (List Int))} {pd : Option Addr} {y pc : Nat} {pp : List Int} {Wi W : World}
    (d : DI w g q1 q2 zv b S st fi v4 v5 ad x cc vs tt pd y pc pp Wi W) (htl : tt.length = x) (hx : x ≤ 3) (hy : y ≤ 5) (hsm : SmallCh ⟨b, S, st, fi, tt, pp⟩) (W2 : World) (hk : KeepB w.heap.size W.heap.size W W2) : ChIn W2 ⟨b, S, st, fi, tt, pp⟩ ad x cc pd y pc :=
  ⟨⟨htl, vs, (d.o.keepB hk).sl, fun j hj => by obtain ⟨a', n', c', h1, h2⟩ := d.i j hj; exact ⟨a', n', c', h1, (h2.keepB (d.k.trans (hk.mono (by have := d.q; omega) d.le))).mat⟩⟩, (d.p.keepB hk).ints, by omega, by omega, hsm⟩
theorem info_cube1 : (Try.prog.info? 53).map (fun i => (i.zero, i.size, i.bytes)) = some (some (.slice none 0 0), 1, 24) := by kernel_rfl
theorem und_cube1 : Try.prog.underlying 24 = some (.slice 53) := by kernel_rfl
set_option maxHeartbeats 4000000 in
theorem spec_drawSized (g : Nat) (a : Option Addr) (n c : Nat) (l : List UInt8) (k : Int) (b p : Nat) (w : World) (h : SrcB w g a n c l k) (hk : 0 ≤ k) (hk2 : k ≤ 998000000) (hb : 2 ≤ b) (hb2 : b ≤ 10) (hp : 1 ≤ p) (hp2 : p ≤ 5) :
    Calls Try.prog 17 #[.pointer (some ⟨g, 0, none⟩), .int .i64 b, .int .i64 p] w (RetDrCh g a n c l k b p w) := by
  have hgw := h.g
  have HS0 := Lib.hid h
  clear h
  go_enter Try.func17, Try.ntmps17
  go_wp2_with fail
  obtain ⟨wz, hwz⟩ : ∃ wz, wz = w.alloc (.cells #[.int .i64 0, .int .i64 0, .int .i64 0, .int .i64 0, .slice none 0 0, .slice none 0 0] 27) := ⟨_, rfl⟩
  have hxz : Ext w wz := by rw [hwz]; exact (by repeat (first | (with_reducible exact Ext.refl _) | (with_reducible refine Ext.drewN ?_ _) | (with_reducible refine Ext.drew ?_) | (with_reducible refine Ext.alloc ?_ _) | ((with_reducible refine Ext.setCell ?_ ?_ _); rotate_left; focus (first | (simp; done) | (simp; omega) | omega)) | assumption | (with_reducible refine Ext.trans ?_ (by assumption))))
  have HZ := Lib.hid (show SAt wz w.heap.size 27 #[.int .i64 0, .int .i64 0, .int .i64 0, .int .i64 0, .slice none 0 0, .slice none 0 0] by rw [hwz]; exact SAt.new' _ _ _ rfl)
  have hzs : wz.heap.size = w.heap.size + 1 := by rw [hwz]; simp
  rw [← hwz]
  clear hwz
  refine (pick_b g a n c l k 6 wz (HS0.out.ext hxz) hk (by omega) (by omega)).mono ?_
  rintro e w1 ⟨s0, k1, rfl, hs0, hs1, hsr1, hk1, hk1', ht1⟩
  have HS1 := Lib.hid hsr1
  have HT1 := Lib.hid (show Touch g w w1 from ((Touch.refl g w).ext hxz).trans ht1)
  have hw1 : wz.heap.size ≤ w1.heap.size := ht1.size
  have HZ1 := Lib.hid (HZ.out.touch ht1 (by omega))
  obtain ⟨sn, hsn⟩ : ∃ sn : Nat, 1 + s0 = (sn : Int) := Int.eq_ofNat_of_zero_le (by omega)
  have hsn10 : 1 ≤ sn ∧ sn ≤ 6 := by omega
  clear hsr1 ht1
  go_wp2_with fail
  obtain ⟨q1, hq1⟩ : ∃ q1, q1 = w.heap.size := ⟨_, rfl⟩
  obtain ⟨e0, he0⟩ : ∃ e0, e0 = w1.heap.size := ⟨_, rfl⟩
  obtain ⟨wb, hwb⟩ : ∃ wb, wb = ((w1.alloc (.cells #[] 53)).alloc (.cells #[] 2)).alloc (.cells #[.int .i64 b, .int .i64 sn, .int .i64 0, .int .i64 0, .slice (some ⟨e0, 0, none⟩) 0 0, .slice (some ⟨e0 + 1, 0, none⟩) 0 0] 27) := ⟨_, rfl⟩
  have hxb : Ext w1 wb := by rw [hwb]; exact (by repeat (first | (with_reducible exact Ext.refl _) | (with_reducible refine Ext.drewN ?_ _) | (with_reducible refine Ext.drew ?_) | (with_reducible refine Ext.alloc ?_ _) | ((with_reducible refine Ext.setCell ?_ ?_ _); rotate_left; focus (first | (simp; done) | (simp; omega) | omega)) | assumption | (with_reducible refine Ext.trans ?_ (by assumption))))
  have HD0 := Lib.hid (show DI w g q1 (e0 + 2) #[.int .i64 0, .int .i64 0, .int .i64 0, .int .i64 0, .slice none 0 0, .slice none 0 0] b sn 0 0 (.slice (some ⟨e0, 0, none⟩) 0 0) (.slice (some ⟨e0 + 1, 0, none⟩) 0 0) (some ⟨e0, 0, none⟩) 0 0 [] [] (some ⟨e0 + 1, 0, none⟩) 0 0 [] wb wb from by
    refine ⟨by rw [hq1]; exact HZ1.out.ext hxb, by rw [hwb]; exact SAt.new' _ _ _ (by simp [he0]), ?_, fun j hj => by omega, ?_, fun a ha => by cases ha; exact .inl (by simp only; omega), HT1.out.ext hxb, KeepB.refl _ _ _, Nat.le_refl _, hgw, by omega⟩
    · rw [hwb]; exact ((Own.lit0' w1 53 (by omega) he0).alloc' _).alloc' _
    · rw [hwb]; exact (Own.lit0' _ 2 (by omega) (by simp [he0])).alloc' _)
  have hq2 : w1.heap.size + 1 + 1 = e0 + 2 := by omega
  rw [hq2, ← hq1, ← he0, ← hwb]
  have HSb := Lib.hid (HS1.out.ext hxb)
  have HQ1 := Lib.hid hq1
  obtain ⟨q2, hq2'⟩ : ∃ q2, q2 = e0 + 2 := ⟨_, rfl⟩
  have HQ2 := Lib.hid hq2'
  rw [← hq2'] at HD0 ⊢
  clear hq2' hq2 hq1 he0 hwb
  refine (one_b g a n c l k1 2 wb HSb.out (by omega) (by omega) (by omega)).mono ?_
  rintro e w2 ⟨yes, k2, rfl, hsr2, hk2', hk2'', ht2⟩
  have HS2 := Lib.hid hsr2
  have HD2 := Lib.hid (HD0.out.touch ht2)
  have c1 := HD2.out.s.cell 1 (by simp)
  have fr := fun j => HD2.out.s.frozen j
  have hlt := HD2.out.s.lt
  try simp only [List.getElem_toArray, List.getElem_cons_succ, List.getElem_cons_zero] at c1
  clear hsr2 ht2
  cases yes
  · go_wp2_with fail
    obtain ⟨S, hSS⟩ : ∃ S : Nat, S = sn := ⟨_, rfl⟩
    have hS : 1 ≤ S ∧ S ≤ 10 := by omega
    obtain ⟨wS, hwS⟩ : ∃ W, W = w2 := ⟨_, rfl⟩
    have HDa := Lib.hid (show DI w g q1 q2 #[.int .i64 0, .int .i64 0, .int .i64 0, .int .i64 0, .slice none 0 0, .slice none 0 0] b S 0 0 _ _ _ 0 0 [] [] _ 0 0 [] wb wS from by rw [hwS, hSS]; exact (HD2.out))
    have HSa := Lib.hid (show SrcB wS g a n c l k2 from by rw [hwS]; first | exact HS2.out | exact HS2.out.below (Below.setCell (Below.refl w.heap.size _) (by simp only; have := HDa.out.q; omega) _) hgw)
    try rw [← hwS]
    clear hwS c1 fr hlt
    refine (pick_b g a n c l k2 _ wS HSa.out (by omega) (by omega) (by omega)).mono ?_
    rintro e w3 ⟨st, k3, rfl, hst0, hst1, hsr3, hk3, hk3', ht3⟩
    have hst : 0 ≤ st ∧ st < (S : Int) := by omega
    have HS3 := Lib.hid hsr3
    have HD3 := Lib.hid (HDa.out.touch ht3)
    have c1 := HD3.out.s.cell 1 (by simp)
    have c2 := HD3.out.s.cell 2 (by simp)
    have fr := fun j => HD3.out.s.frozen j
    have hlt := HD3.out.s.lt
    try simp only [List.getElem_toArray, List.getElem_cons_succ, List.getElem_cons_zero] at c1 c2
    clear hsr3 ht3 hst0 hst1 hSS
    go_wp2_with fail
    have HD3b := Lib.hid (HD3.out.set 2 (.int .i64 st) rfl)
    have HS3b := Lib.hid (HS3.out.below (Below.setCell (Below.refl w.heap.size w3) (p := ⟨q2, 2, none⟩) (by simp only; have := HDa.out.q; omega) (.int .i64 st)) hgw)
    obtain ⟨w3b, hw3b⟩ : ∃ W, W = w3.setCell ⟨q2, 2, none⟩ (.int .i64 st) := ⟨_, rfl⟩
    rw [← hw3b] at HD3b HS3b ⊢
    clear hw3b c1 c2 fr hlt
    refine (pick_b g a n c l k3 _ w3b HS3b.out (by omega) (by omega) (by omega)).mono ?_
    rintro e w4 ⟨fi, k4, rfl, hfi0, hfi1, hsr4, hk4, hk4', ht4⟩
    have hfi : 0 ≤ fi ∧ fi < (S : Int) := by omega
    have HS4 := Lib.hid hsr4
    have HD4 := Lib.hid (HD3b.out.touch ht4)
    have c3 := HD4.out.s.cell 3 (by simp)
    have fr := fun j => HD4.out.s.frozen j
    have hlt := HD4.out.s.lt
    try simp only [List.getElem_toArray, List.getElem_cons_succ, List.getElem_cons_zero] at c3
    clear hsr4 ht4 hfi0 hfi1
    go_wp2_with fail
    have HD4b := Lib.hid (HD4.out.set 3 (.int .i64 fi) rfl)
    have HS4b := Lib.hid (HS4.out.below (Below.setCell (Below.refl w.heap.size w4) (p := ⟨q2, 3, none⟩) (by simp only; have := HDa.out.q; omega) (.int .i64 fi)) hgw)
    obtain ⟨w4b, hw4b⟩ : ∃ W, W = w4.setCell ⟨q2, 3, none⟩ (.int .i64 fi) := ⟨_, rfl⟩
    rw [← hw4b] at HD4b HS4b ⊢
    clear hw4b c3 fr hlt
    refine (pick_b g a n c l k4 3 w4b HS4b.out (by omega) (by omega) (by omega)).mono ?_
    rintro e w5 ⟨m0, k5, rfl, hm0, hm1, hsr5, hk5, hk5', ht5⟩
    obtain ⟨M, hM⟩ : ∃ M : Nat, 1 + m0 = (M : Int) := Int.eq_ofNat_of_zero_le (by omega)
    have hM3 : 1 ≤ M ∧ M ≤ 3 := by omega
    have HS5 := Lib.hid hsr5
    have HD5 := Lib.hid ((HD4b.out.touch ht5).norm (fun a ha => by cases ha; have := HQ2.out; simp only; omega))
    have hk5b : k ≤ k5 ∧ k5 ≤ k + 12 := by omega
    clear hsr5 ht5 HDa HD0 HD2 HS2 HSa HD3 HS3 HD3b HS3b HD4 HS4 HD4b HS4b HS1 HT1 HZ HZ1 HSb HS0
    clear hk1 hk1' hk2' hk2'' hk3 hk3' hk4 hk4' hk5 hk5' hs0 hs1 hsn hxz hxb hw1 hzs hsn10
    go_wp2
    go_loopw [8] (fun kc wr => ∃ (x r : Nat) (ad : Option Addr) (cc : Nat) (vs : List Value) (tt : List (List (List Int))) (kk : Int), x + r = M ∧ kc = .int .i64 r ∧ Hid (tt.length = x) ∧ Hid (∀ t ∈ tt, TabOk S b t) ∧
        Hid (DI w g q1 q2 #[.int .i64 0, .int .i64 0, .int .i64 0, .int .i64 0, .slice none 0 0, .slice none 0 0] b S st fi (.slice ad x cc) (.slice (some ⟨e0 + 1, 0, none⟩) 0 0) ad x cc vs tt (some ⟨e0 + 1, 0, none⟩) 0 0 [] wr wr) ∧ Hid (SrcB wr g a n c l kk) ∧ k ≤ kk ∧ kk ≤ k + 12 + 300 * x) (fun kc _ => (intOf kc).toNat)
    case atStart => exact ⟨0, M, _, 0, [], [], k5, by omega, by first | rw [hM] | rfl, rfl, (fun t ht => by cases ht), HD5.out, HS5.out, by omega, by omega⟩
    case round =>
      obtain ⟨x, r, ad, cc, vs, tt, kk, hxr, rfl, HL, HTs, HD, HS, hka, hkb⟩ := hrel
      by_cases hr : 0 < r
      · have HB := Lib.hid (show ∀ a : Addr, some (⟨e0 + 1, 0, none⟩ : Addr) = some a → a.block < q2 + 1 from fun a ha => by cases ha; have := HQ2.out; simp only; omega)
        have hq := HD.out.q
        go_wp2
        obtain ⟨C0, hC0⟩ : ∃ C : World → Prop, C = fun w' => SAt w' q2 27 #[.int .i64 b, .int .i64 S, .int .i64 st, .int .i64 fi, .slice ad x cc, .slice (some ⟨e0 + 1, 0, none⟩) 0 0] := ⟨_, rfl⟩
        have hin : C0 wr.drew := by rw [hC0]; exact HD.out.s.drew
        have hpk : ∀ z, SAt (World.pk C0 wr.drew z) q2 27 #[.int .i64 b, .int .i64 S, .int .i64 st, .int .i64 fi, .slice ad x cc, .slice (some ⟨e0 + 1, 0, none⟩) 0 0] := fun z => by have := pk_in hin z; rw [hC0] at this; rw [hC0]; exact this
        have k1 : ∀ z, (World.pk C0 wr.drew z).cell? ⟨q2, 1, none⟩ = some (.int .i64 S) := fun z => (hpk z).cell 1 (by simp)
        have k4 : ∀ z, (World.pk C0 wr.drew z).cell? ⟨q2, 4, none⟩ = some (.slice ad x cc) := fun z => (hpk z).cell 4 (by simp)
        have HDt := Lib.hid (spec_drawTable g a n c l kk S b wr.drew (HS.out.ext ((Ext.refl _).drew)) (by omega) (by omega) hS.1 hS.2 hb2)
        have Hhpk := Lib.hid hpk; clear hpk; have Hhin := Lib.hid hin; clear hin; have HhC0 := Lib.hid hC0; clear hC0
        refine wp_region_pk C0 10 Hhin.out rfl (by kernel_rfl) (by kernel_rfl) (by kernel_rfl) (by kernel_rfl) ?_
        simp only [List.take_succ_cons, List.take_zero, List.drop_succ_cons, List.drop_zero]
        (repeat (first | (refine mix_q rfl ?_; go_big_quiet_step (fail); refine wpQuiet_nil ?_; show wpMix _ _ _ _ _ _ _) | (refine mix_s rfl ?_; go_wp2_with (first
          | (go_at_call 35; (with_reducible refine HDt.out.mono ?_); rintro e w6 ⟨a1, c1, t1, k6, rfl, htk, hmt, hsr6, hk6, hk6', ht6⟩; have HD6 := Lib.hid (HD.out.ext ((Ext.refl _).drew) |>.touch ht6 |>.norm HB.out); have HM6 := Lib.hid (hmt.mono (show q2 + 1 ≤ wr.drew.heap.size from HD.out.s.lt)); have HS6 := Lib.hid hsr6; have HTk := Lib.hid htk; have hw6 := HD6.out.h.size; clear hmt hsr6 ht6 htk)
          | (at_builtin; refine law_append1 w6 rfl _ _ 24 rfl 53 (.slice none 0 0) 24 und_cube1 info_cube1 rfl w.heap.size ad x cc _ _ rfl rfl (by simp [Act.eval, go_sem]) HD6.out.o hw6 (by omega) (by omega) ?_; intro ad' cc' w7 ho7 hb7 hg7; have HD7 := Lib.hid (HD6.out.app HL.out HB.out HM6.out hb7 hg7 ho7); have HS7 := Lib.hid (HS6.out.below hb7 hgw); clear hb7 hg7)); first | refine ⟨pk_of (by rw [HhC0.out]; exact HD7.out.s), ?_⟩ | refine ⟨rfl, rfl, pk_of (by rw [HhC0.out]; exact HD7.out.s), ?_⟩ | refine ⟨pk_of (by rw [HhC0.out]; exact HD6.out.s), ?_⟩ | refine ⟨rfl, rfl, pk_of (by rw [HhC0.out]; exact HD6.out.s), ?_⟩ | refine ⟨pk_of (by rw [HhC0.out]; exact HD6.out.s.alloc _), ?_⟩ | refine ⟨rfl, rfl, pk_of (by rw [HhC0.out]; exact HD6.out.s.alloc _), ?_⟩)))
        refine mix_nil ?_
        have c4 := HD7.out.s.cell 4 (by simp)
        have fr := HD7.out.s.frozen 4
        have hlt := HD7.out.s.lt
        try simp only [List.getElem_toArray, List.getElem_cons_succ, List.getElem_cons_zero] at c4
        go_wp2
        exact ⟨⟨x + 1, r - 1, ad', cc', _, tt ++ [t1], k6, by omega, by go_num, by rw [Hid, List.length_append, HL.out]; rfl, by rw [Hid]; exact all_snoc HTs.out HTk.out, (HD7.out.set 4 (.slice ad' (x + 1) cc') rfl).norm HB.out, HS7.out.below (Below.setCell (Below.refl w.heap.size w7) (p := ⟨q2, 4, none⟩) (by simp only; omega) _) hgw, by omega, by omega⟩, by simp [intOf]; omega⟩
      · obtain rfl : x = M := by omega
        have hHB : ∀ a : Addr, some (⟨e0 + 1, 0, none⟩ : Addr) = some a → a.block < q2 + 1 := fun a ha => by cases ha; have := HQ2.out; simp only; omega
        clear hHB
        obtain ⟨wo, hwo⟩ : ∃ wo, wo = wr := ⟨_, rfl⟩
        subst hwo
        go_wp2
        go_loopw [9] (fun yi wr => ∃ (y : Nat) (pd : Option Addr) (pc : Nat) (pp : List Int) (kq : Int), y ≤ p ∧ yi = .int .i64 y ∧ Hid (pp.length = y) ∧ Hid (∀ u ∈ pp, 0 ≤ u ∧ u < (x : Int)) ∧
          Hid (DI w g q1 q2 #[.int .i64 0, .int .i64 0, .int .i64 0, .int .i64 0, .slice none 0 0, .slice none 0 0] b S st fi (.slice ad x cc) (.slice pd y pc) ad x cc vs tt pd y pc pp wo wr) ∧ Hid (SrcB wr g a n c l kq) ∧ k ≤ kq ∧ kq ≤ kk + 2 * y) (fun yi _ => p - (intOf yi).toNat)
        case atStart => exact ⟨0, _, 0, [], kk, Nat.zero_le _, rfl, rfl, (fun u hu => by cases hu), HD.out, HS.out, hka, by omega⟩
        case round =>
          obtain ⟨y, pd, pc, pp, kq, hy, rfl, HPl, HPp, HDy, HSy, hkc, hkd⟩ := hrel
          have hq := HDy.out.q
          by_cases hly : y < p
          · go_wp2
            obtain ⟨C0, hC0⟩ : ∃ C : World → Prop, C = fun w' => SAt w' q2 27 #[.int .i64 b, .int .i64 S, .int .i64 st, .int .i64 fi, .slice ad x cc, .slice pd y pc] := ⟨_, rfl⟩
            have hin : C0 wr.drew := by rw [hC0]; exact HDy.out.s.drew
            have hpk : ∀ z, SAt (World.pk C0 wr.drew z) q2 27 #[.int .i64 b, .int .i64 S, .int .i64 st, .int .i64 fi, .slice ad x cc, .slice pd y pc] := fun z => by have := pk_in hin z; rw [hC0] at this; rw [hC0]; exact this
            have k5 : ∀ z, (World.pk C0 wr.drew z).cell? ⟨q2, 5, none⟩ = some (.slice pd y pc) := fun z => (hpk z).cell 5 (by simp)
            have k4 : ∀ z, (World.pk C0 wr.drew z).cell? ⟨q2, 4, none⟩ = some (.slice ad x cc) := fun z => (hpk z).cell 4 (by simp)
            have HPk := Lib.hid (pick_b g a n c l kq (x : Int) wr.drew (HSy.out.ext ((Ext.refl _).drew)) (by omega) (by omega) (by omega))
            have Hhpk := Lib.hid hpk; clear hpk; have Hhin := Lib.hid hin; clear hin; have HhC0 := Lib.hid hC0; clear hC0
            refine wp_region_pk C0 10 Hhin.out rfl (by kernel_rfl) (by kernel_rfl) (by kernel_rfl) (by kernel_rfl) ?_
            simp only [List.take_succ_cons, List.take_zero, List.drop_succ_cons, List.drop_zero]
            (repeat (first | (refine mix_q rfl ?_; go_big_quiet_step (fail); refine wpQuiet_nil ?_; show wpMix _ _ _ _ _ _ _) | (refine mix_s rfl ?_; go_wp2_with (first
              | (go_at_call 15; (with_reducible refine HPk.out.mono ?_); rintro e w6 ⟨u, k6, rfl, hu0, hu1, hsr6, hk6, hk6', ht6⟩; have HD6 := Lib.hid (HDy.out.ext ((Ext.refl _).drew) |>.touch ht6); have HS6 := Lib.hid hsr6; have hw6 := HD6.out.h.size; clear hsr6 ht6)
              | (at_builtin; refine law_append1_at w6 rfl _ _ 25 rfl 2 (.int .i64 0) 8 und_int64s info_int64 rfl w.heap.size pd y pc _ _ rfl rfl (by simp [Act.eval, go_sem]) HD6.out.p hw6 (by omega) (by omega) ?_; intro pd' pc' w7 ho7 hb7 hg7 hk7; have HD7 := Lib.hid (HD6.out.put hb7 hg7 ho7 hk7); have HS7 := Lib.hid (HS6.out.below hb7 hgw); clear hb7 hg7 hk7 ho7)); first | refine ⟨pk_of (by rw [HhC0.out]; exact HD7.out.s), ?_⟩ | refine ⟨rfl, rfl, pk_of (by rw [HhC0.out]; exact HD7.out.s), ?_⟩ | refine ⟨pk_of (by rw [HhC0.out]; exact HD6.out.s), ?_⟩ | refine ⟨rfl, rfl, pk_of (by rw [HhC0.out]; exact HD6.out.s), ?_⟩ | refine ⟨pk_of (by rw [HhC0.out]; exact HD6.out.s.alloc _), ?_⟩ | refine ⟨rfl, rfl, pk_of (by rw [HhC0.out]; exact HD6.out.s.alloc _), ?_⟩)))
            refine mix_nil ?_
            have c5 := HD7.out.s.cell 5 (by simp)
            have fr := HD7.out.s.frozen 5
            have hlt := HD7.out.s.lt
            try simp only [List.getElem_toArray, List.getElem_cons_succ, List.getElem_cons_zero] at c5
            go_wp2
            exact ⟨⟨y + 1, pd', pc', pp ++ [u], k6, by omega, by go_num, by rw [Hid, List.length_append, HPl.out]; rfl, by rw [Hid]; exact all_snoc HPp.out (by omega), HD7.out.set 5 (.slice pd' (y + 1) pc') rfl, HS7.out.below (Below.setCell (Below.refl w.heap.size w7) (p := ⟨q2, 5, none⟩) (by simp only; omega) _) hgw, by omega, by omega⟩, by simp [intOf]; omega⟩
          · obtain rfl : y = p := by omega
            have d := HDy.out
            have c0 := d.s.cell 0 (by simp)
            have c1 := d.s.cell 1 (by simp)
            have c2 := d.s.cell 2 (by simp)
            have c3 := d.s.cell 3 (by simp)
            have c4 := d.s.cell 4 (by simp)
            have c5 := d.s.cell 5 (by simp)
            have z0 := d.z.cell 0 (by simp)
            have z1 := d.z.cell 1 (by simp)
            have z2 := d.z.cell 2 (by simp)
            have z3 := d.z.cell 3 (by simp)
            have z4 := d.z.cell 4 (by simp)
            have z5 := d.z.cell 5 (by simp)
            have fr := fun j => d.z.frozen j
            have hlt := d.z.lt
            try simp only [List.getElem_toArray, List.getElem_cons_succ, List.getElem_cons_zero] at c0 c1 c2 c3 c4 c5 z0 z1 z2 z3 z4 z5
            have HDr := Lib.hid (show DrawnCh ⟨b, S, st, fi, tt, pp⟩ from ⟨by simp only; omega, by simp only; omega, by simp only; omega, by simp only; omega, hst, hfi, by have := HL.out; simp only; omega, by have := HL.out; simp only; omega, by have := HPl.out; simp only; omega, by have := HPl.out; simp only; omega, HTs.out, fun u hu => by have h1 := HPp.out u hu; have h2 := HL.out; simp only; omega⟩)
            clear d
            go_wp2
            have HZf := Lib.hid ((((((HDy.out.setZ 0 (.int .i64 b)).setZ 1 (.int .i64 S)).setZ 2 (.int .i64 st)).setZ 3 (.int .i64 fi)).setZ 4 (.slice ad x cc)).setZ 5 (.slice pd y pc))
            refine bodyPost_ret (v := .agg #[.int .i64 b, .int .i64 S, .int .i64 st, .int .i64 fi, .slice ad x cc, .slice pd y pc]) ?_ rfl ?_
            · simp [results, Try.results17, go_sem, z0, z1, z2, z3, z4, z5]
            · exact ⟨⟨b, S, st, fi, tt, pp⟩, ad, x, cc, pd, pc, kq, rfl, HDr.out, rfl, HPl.out, by omega, HZf.out.chIn HL.out (by omega) (by omega) HDr.out.small, HSy.out.below (B := w.heap.size) (by repeat (first | (with_reducible exact Below.refl _ _) | ((with_reducible refine Below.setCell ?_ ?_ _); rotate_left; focus (simp only; omega)))) hgw, by omega, by omega, HZf.out.h⟩
  · go_wp2_with fail
    obtain ⟨S, hSS⟩ : ∃ S : Nat, S = b := ⟨_, rfl⟩
    have hS : 1 ≤ S ∧ S ≤ 10 := by omega
    obtain ⟨wS, hwS⟩ : ∃ W, W = w2.setCell ⟨q2, 1, none⟩ (.int .i64 b) := ⟨_, rfl⟩
    have HDa := Lib.hid (show DI w g q1 q2 #[.int .i64 0, .int .i64 0, .int .i64 0, .int .i64 0, .slice none 0 0, .slice none 0 0] b S 0 0 _ _ _ 0 0 [] [] _ 0 0 [] wb wS from by rw [hwS, hSS]; exact (HD2.out.set 1 (.int .i64 b) rfl))
    have HSa := Lib.hid (show SrcB wS g a n c l k2 from by rw [hwS]; first | exact HS2.out | exact HS2.out.below (Below.setCell (Below.refl w.heap.size _) (by simp only; have := HDa.out.q; omega) _) hgw)
    try rw [← hwS]
    clear hwS c1 fr hlt
    refine (pick_b g a n c l k2 _ wS HSa.out (by omega) (by omega) (by omega)).mono ?_
    rintro e w3 ⟨st, k3, rfl, hst0, hst1, hsr3, hk3, hk3', ht3⟩
    have hst : 0 ≤ st ∧ st < (S : Int) := by omega
    have HS3 := Lib.hid hsr3
    have HD3 := Lib.hid (HDa.out.touch ht3)
    have c1 := HD3.out.s.cell 1 (by simp)
    have c2 := HD3.out.s.cell 2 (by simp)
    have fr := fun j => HD3.out.s.frozen j
    have hlt := HD3.out.s.lt
    try simp only [List.getElem_toArray, List.getElem_cons_succ, List.getElem_cons_zero] at c1 c2
    clear hsr3 ht3 hst0 hst1 hSS
    go_wp2_with fail
    have HD3b := Lib.hid (HD3.out.set 2 (.int .i64 st) rfl)
    have HS3b := Lib.hid (HS3.out.below (Below.setCell (Below.refl w.heap.size w3) (p := ⟨q2, 2, none⟩) (by simp only; have := HDa.out.q; omega) (.int .i64 st)) hgw)
    obtain ⟨w3b, hw3b⟩ : ∃ W, W = w3.setCell ⟨q2, 2, none⟩ (.int .i64 st) := ⟨_, rfl⟩
    rw [← hw3b] at HD3b HS3b ⊢
    clear hw3b c1 c2 fr hlt
    refine (pick_b g a n c l k3 _ w3b HS3b.out (by omega) (by omega) (by omega)).mono ?_
    rintro e w4 ⟨fi, k4, rfl, hfi0, hfi1, hsr4, hk4, hk4', ht4⟩
    have hfi : 0 ≤ fi ∧ fi < (S : Int) := by omega
    have HS4 := Lib.hid hsr4
    have HD4 := Lib.hid (HD3b.out.touch ht4)
    have c3 := HD4.out.s.cell 3 (by simp)
    have fr := fun j => HD4.out.s.frozen j
    have hlt := HD4.out.s.lt
    try simp only [List.getElem_toArray, List.getElem_cons_succ, List.getElem_cons_zero] at c3
    clear hsr4 ht4 hfi0 hfi1
    go_wp2_with fail
    have HD4b := Lib.hid (HD4.out.set 3 (.int .i64 fi) rfl)
    have HS4b := Lib.hid (HS4.out.below (Below.setCell (Below.refl w.heap.size w4) (p := ⟨q2, 3, none⟩) (by simp only; have := HDa.out.q; omega) (.int .i64 fi)) hgw)
    obtain ⟨w4b, hw4b⟩ : ∃ W, W = w4.setCell ⟨q2, 3, none⟩ (.int .i64 fi) := ⟨_, rfl⟩
    rw [← hw4b] at HD4b HS4b ⊢
    clear hw4b c3 fr hlt
    refine (pick_b g a n c l k4 3 w4b HS4b.out (by omega) (by omega) (by omega)).mono ?_
    rintro e w5 ⟨m0, k5, rfl, hm0, hm1, hsr5, hk5, hk5', ht5⟩
    obtain ⟨M, hM⟩ : ∃ M : Nat, 1 + m0 = (M : Int) := Int.eq_ofNat_of_zero_le (by omega)
    have hM3 : 1 ≤ M ∧ M ≤ 3 := by omega
    have HS5 := Lib.hid hsr5
    have HD5 := Lib.hid ((HD4b.out.touch ht5).norm (fun a ha => by cases ha; have := HQ2.out; simp only; omega))
    have hk5b : k ≤ k5 ∧ k5 ≤ k + 12 := by omega
    clear hsr5 ht5 HDa HD0 HD2 HS2 HSa HD3 HS3 HD3b HS3b HD4 HS4 HD4b HS4b HS1 HT1 HZ HZ1 HSb HS0
    clear hk1 hk1' hk2' hk2'' hk3 hk3' hk4 hk4' hk5 hk5' hs0 hs1 hsn hxz hxb hw1 hzs hsn10
    go_wp2
    go_loopw [8] (fun kc wr => ∃ (x r : Nat) (ad : Option Addr) (cc : Nat) (vs : List Value) (tt : List (List (List Int))) (kk : Int), x + r = M ∧ kc = .int .i64 r ∧ Hid (tt.length = x) ∧ Hid (∀ t ∈ tt, TabOk S b t) ∧
        Hid (DI w g q1 q2 #[.int .i64 0, .int .i64 0, .int .i64 0, .int .i64 0, .slice none 0 0, .slice none 0 0] b S st fi (.slice ad x cc) (.slice (some ⟨e0 + 1, 0, none⟩) 0 0) ad x cc vs tt (some ⟨e0 + 1, 0, none⟩) 0 0 [] wr wr) ∧ Hid (SrcB wr g a n c l kk) ∧ k ≤ kk ∧ kk ≤ k + 12 + 300 * x) (fun kc _ => (intOf kc).toNat)
    case atStart => exact ⟨0, M, _, 0, [], [], k5, by omega, by first | rw [hM] | rfl, rfl, (fun t ht => by cases ht), HD5.out, HS5.out, by omega, by omega⟩
    case round =>
      obtain ⟨x, r, ad, cc, vs, tt, kk, hxr, rfl, HL, HTs, HD, HS, hka, hkb⟩ := hrel
      by_cases hr : 0 < r
      · have HB := Lib.hid (show ∀ a : Addr, some (⟨e0 + 1, 0, none⟩ : Addr) = some a → a.block < q2 + 1 from fun a ha => by cases ha; have := HQ2.out; simp only; omega)
        have hq := HD.out.q
        go_wp2
        obtain ⟨C0, hC0⟩ : ∃ C : World → Prop, C = fun w' => SAt w' q2 27 #[.int .i64 b, .int .i64 S, .int .i64 st, .int .i64 fi, .slice ad x cc, .slice (some ⟨e0 + 1, 0, none⟩) 0 0] := ⟨_, rfl⟩
        have hin : C0 wr.drew := by rw [hC0]; exact HD.out.s.drew
        have hpk : ∀ z, SAt (World.pk C0 wr.drew z) q2 27 #[.int .i64 b, .int .i64 S, .int .i64 st, .int .i64 fi, .slice ad x cc, .slice (some ⟨e0 + 1, 0, none⟩) 0 0] := fun z => by have := pk_in hin z; rw [hC0] at this; rw [hC0]; exact this
        have k1 : ∀ z, (World.pk C0 wr.drew z).cell? ⟨q2, 1, none⟩ = some (.int .i64 S) := fun z => (hpk z).cell 1 (by simp)
        have k4 : ∀ z, (World.pk C0 wr.drew z).cell? ⟨q2, 4, none⟩ = some (.slice ad x cc) := fun z => (hpk z).cell 4 (by simp)
        have HDt := Lib.hid (spec_drawTable g a n c l kk S b wr.drew (HS.out.ext ((Ext.refl _).drew)) (by omega) (by omega) hS.1 hS.2 hb2)
        have Hhpk := Lib.hid hpk; clear hpk; have Hhin := Lib.hid hin; clear hin; have HhC0 := Lib.hid hC0; clear hC0
        refine wp_region_pk C0 10 Hhin.out rfl (by kernel_rfl) (by kernel_rfl) (by kernel_rfl) (by kernel_rfl) ?_
        simp only [List.take_succ_cons, List.take_zero, List.drop_succ_cons, List.drop_zero]
        (repeat (first | (refine mix_q rfl ?_; go_big_quiet_step (fail); refine wpQuiet_nil ?_; show wpMix _ _ _ _ _ _ _) | (refine mix_s rfl ?_; go_wp2_with (first
          | (go_at_call 35; (with_reducible refine HDt.out.mono ?_); rintro e w6 ⟨a1, c1, t1, k6, rfl, htk, hmt, hsr6, hk6, hk6', ht6⟩; have HD6 := Lib.hid (HD.out.ext ((Ext.refl _).drew) |>.touch ht6 |>.norm HB.out); have HM6 := Lib.hid (hmt.mono (show q2 + 1 ≤ wr.drew.heap.size from HD.out.s.lt)); have HS6 := Lib.hid hsr6; have HTk := Lib.hid htk; have hw6 := HD6.out.h.size; clear hmt hsr6 ht6 htk)
          | (at_builtin; refine law_append1 w6 rfl _ _ 24 rfl 53 (.slice none 0 0) 24 und_cube1 info_cube1 rfl w.heap.size ad x cc _ _ rfl rfl (by simp [Act.eval, go_sem]) HD6.out.o hw6 (by omega) (by omega) ?_; intro ad' cc' w7 ho7 hb7 hg7; have HD7 := Lib.hid (HD6.out.app HL.out HB.out HM6.out hb7 hg7 ho7); have HS7 := Lib.hid (HS6.out.below hb7 hgw); clear hb7 hg7)); first | refine ⟨pk_of (by rw [HhC0.out]; exact HD7.out.s), ?_⟩ | refine ⟨rfl, rfl, pk_of (by rw [HhC0.out]; exact HD7.out.s), ?_⟩ | refine ⟨pk_of (by rw [HhC0.out]; exact HD6.out.s), ?_⟩ | refine ⟨rfl, rfl, pk_of (by rw [HhC0.out]; exact HD6.out.s), ?_⟩ | refine ⟨pk_of (by rw [HhC0.out]; exact HD6.out.s.alloc _), ?_⟩ | refine ⟨rfl, rfl, pk_of (by rw [HhC0.out]; exact HD6.out.s.alloc _), ?_⟩)))
        refine mix_nil ?_
        have c4 := HD7.out.s.cell 4 (by simp)
        have fr := HD7.out.s.frozen 4
        have hlt := HD7.out.s.lt
        try simp only [List.getElem_toArray, List.getElem_cons_succ, List.getElem_cons_zero] at c4
        go_wp2
        exact ⟨⟨x + 1, r - 1, ad', cc', _, tt ++ [t1], k6, by omega, by go_num, by rw [Hid, List.length_append, HL.out]; rfl, by rw [Hid]; exact all_snoc HTs.out HTk.out, (HD7.out.set 4 (.slice ad' (x + 1) cc') rfl).norm HB.out, HS7.out.below (Below.setCell (Below.refl w.heap.size w7) (p := ⟨q2, 4, none⟩) (by simp only; omega) _) hgw, by omega, by omega⟩, by simp [intOf]; omega⟩
      · obtain rfl : x = M := by omega
        have hHB : ∀ a : Addr, some (⟨e0 + 1, 0, none⟩ : Addr) = some a → a.block < q2 + 1 := fun a ha => by cases ha; have := HQ2.out; simp only; omega
        clear hHB
        obtain ⟨wo, hwo⟩ : ∃ wo, wo = wr := ⟨_, rfl⟩
        subst hwo
        go_wp2
        go_loopw [9] (fun yi wr => ∃ (y : Nat) (pd : Option Addr) (pc : Nat) (pp : List Int) (kq : Int), y ≤ p ∧ yi = .int .i64 y ∧ Hid (pp.length = y) ∧ Hid (∀ u ∈ pp, 0 ≤ u ∧ u < (x : Int)) ∧
          Hid (DI w g q1 q2 #[.int .i64 0, .int .i64 0, .int .i64 0, .int .i64 0, .slice none 0 0, .slice none 0 0] b S st fi (.slice ad x cc) (.slice pd y pc) ad x cc vs tt pd y pc pp wo wr) ∧ Hid (SrcB wr g a n c l kq) ∧ k ≤ kq ∧ kq ≤ kk + 2 * y) (fun yi _ => p - (intOf yi).toNat)
        case atStart => exact ⟨0, _, 0, [], kk, Nat.zero_le _, rfl, rfl, (fun u hu => by cases hu), HD.out, HS.out, hka, by omega⟩
        case round =>
          obtain ⟨y, pd, pc, pp, kq, hy, rfl, HPl, HPp, HDy, HSy, hkc, hkd⟩ := hrel
          have hq := HDy.out.q
          by_cases hly : y < p
          · go_wp2
            obtain ⟨C0, hC0⟩ : ∃ C : World → Prop, C = fun w' => SAt w' q2 27 #[.int .i64 b, .int .i64 S, .int .i64 st, .int .i64 fi, .slice ad x cc, .slice pd y pc] := ⟨_, rfl⟩
            have hin : C0 wr.drew := by rw [hC0]; exact HDy.out.s.drew
            have hpk : ∀ z, SAt (World.pk C0 wr.drew z) q2 27 #[.int .i64 b, .int .i64 S, .int .i64 st, .int .i64 fi, .slice ad x cc, .slice pd y pc] := fun z => by have := pk_in hin z; rw [hC0] at this; rw [hC0]; exact this
            have k5 : ∀ z, (World.pk C0 wr.drew z).cell? ⟨q2, 5, none⟩ = some (.slice pd y pc) := fun z => (hpk z).cell 5 (by simp)
            have k4 : ∀ z, (World.pk C0 wr.drew z).cell? ⟨q2, 4, none⟩ = some (.slice ad x cc) := fun z => (hpk z).cell 4 (by simp)
            have HPk := Lib.hid (pick_b g a n c l kq (x : Int) wr.drew (HSy.out.ext ((Ext.refl _).drew)) (by omega) (by omega) (by omega))
            have Hhpk := Lib.hid hpk; clear hpk; have Hhin := Lib.hid hin; clear hin; have HhC0 := Lib.hid hC0; clear hC0
            refine wp_region_pk C0 10 Hhin.out rfl (by kernel_rfl) (by kernel_rfl) (by kernel_rfl) (by kernel_rfl) ?_
            simp only [List.take_succ_cons, List.take_zero, List.drop_succ_cons, List.drop_zero]
            (repeat (first | (refine mix_q rfl ?_; go_big_quiet_step (fail); refine wpQuiet_nil ?_; show wpMix _ _ _ _ _ _ _) | (refine mix_s rfl ?_; go_wp2_with (first
              | (go_at_call 15; (with_reducible refine HPk.out.mono ?_); rintro e w6 ⟨u, k6, rfl, hu0, hu1, hsr6, hk6, hk6', ht6⟩; have HD6 := Lib.hid (HDy.out.ext ((Ext.refl _).drew) |>.touch ht6); have HS6 := Lib.hid hsr6; have hw6 := HD6.out.h.size; clear hsr6 ht6)
              | (at_builtin; refine law_append1_at w6 rfl _ _ 25 rfl 2 (.int .i64 0) 8 und_int64s info_int64 rfl w.heap.size pd y pc _ _ rfl rfl (by simp [Act.eval, go_sem]) HD6.out.p hw6 (by omega) (by omega) ?_; intro pd' pc' w7 ho7 hb7 hg7 hk7; have HD7 := Lib.hid (HD6.out.put hb7 hg7 ho7 hk7); have HS7 := Lib.hid (HS6.out.below hb7 hgw); clear hb7 hg7 hk7 ho7)); first | refine ⟨pk_of (by rw [HhC0.out]; exact HD7.out.s), ?_⟩ | refine ⟨rfl, rfl, pk_of (by rw [HhC0.out]; exact HD7.out.s), ?_⟩ | refine ⟨pk_of (by rw [HhC0.out]; exact HD6.out.s), ?_⟩ | refine ⟨rfl, rfl, pk_of (by rw [HhC0.out]; exact HD6.out.s), ?_⟩ | refine ⟨pk_of (by rw [HhC0.out]; exact HD6.out.s.alloc _), ?_⟩ | refine ⟨rfl, rfl, pk_of (by rw [HhC0.out]; exact HD6.out.s.alloc _), ?_⟩)))
            refine mix_nil ?_
            have c5 := HD7.out.s.cell 5 (by simp)
            have fr := HD7.out.s.frozen 5
            have hlt := HD7.out.s.lt
            try simp only [List.getElem_toArray, List.getElem_cons_succ, List.getElem_cons_zero] at c5
            go_wp2
            exact ⟨⟨y + 1, pd', pc', pp ++ [u], k6, by omega, by go_num, by rw [Hid, List.length_append, HPl.out]; rfl, by rw [Hid]; exact all_snoc HPp.out (by omega), HD7.out.set 5 (.slice pd' (y + 1) pc') rfl, HS7.out.below (Below.setCell (Below.refl w.heap.size w7) (p := ⟨q2, 5, none⟩) (by simp only; omega) _) hgw, by omega, by omega⟩, by simp [intOf]; omega⟩
          · obtain rfl : y = p := by omega
            have d := HDy.out
            have c0 := d.s.cell 0 (by simp)
            have c1 := d.s.cell 1 (by simp)
            have c2 := d.s.cell 2 (by simp)
            have c3 := d.s.cell 3 (by simp)
            have c4 := d.s.cell 4 (by simp)
            have c5 := d.s.cell 5 (by simp)
            have z0 := d.z.cell 0 (by simp)
            have z1 := d.z.cell 1 (by simp)
            have z2 := d.z.cell 2 (by simp)
            have z3 := d.z.cell 3 (by simp)
            have z4 := d.z.cell 4 (by simp)
            have z5 := d.z.cell 5 (by simp)
            have fr := fun j => d.z.frozen j
            have hlt := d.z.lt
            try simp only [List.getElem_toArray, List.getElem_cons_succ, List.getElem_cons_zero] at c0 c1 c2 c3 c4 c5 z0 z1 z2 z3 z4 z5
            have HDr := Lib.hid (show DrawnCh ⟨b, S, st, fi, tt, pp⟩ from ⟨by simp only; omega, by simp only; omega, by simp only; omega, by simp only; omega, hst, hfi, by have := HL.out; simp only; omega, by have := HL.out; simp only; omega, by have := HPl.out; simp only; omega, by have := HPl.out; simp only; omega, HTs.out, fun u hu => by have h1 := HPp.out u hu; have h2 := HL.out; simp only; omega⟩)
            clear d
            go_wp2
            have HZf := Lib.hid ((((((HDy.out.setZ 0 (.int .i64 b)).setZ 1 (.int .i64 S)).setZ 2 (.int .i64 st)).setZ 3 (.int .i64 fi)).setZ 4 (.slice ad x cc)).setZ 5 (.slice pd y pc))
            refine bodyPost_ret (v := .agg #[.int .i64 b, .int .i64 S, .int .i64 st, .int .i64 fi, .slice ad x cc, .slice pd y pc]) ?_ rfl ?_
            · simp [results, Try.results17, go_sem, z0, z1, z2, z3, z4, z5]
            · exact ⟨⟨b, S, st, fi, tt, pp⟩, ad, x, cc, pd, pc, kq, rfl, HDr.out, rfl, HPl.out, by omega, HZf.out.chIn HL.out (by omega) (by omega) HDr.out.small, HSy.out.below (B := w.heap.size) (by repeat (first | (with_reducible exact Below.refl _ _) | ((with_reducible refine Below.setCell ?_ ?_ _); rotate_left; focus (simp only; omega)))) hgw, by omega, by omega, HZf.out.h⟩
end Go.Proofs.Ytccoopnoakhedaa
