/- Walks: chains: the state behind a symbol, behind symbols. -/
import Derived.Test.YtccoopnoakhedaaCube
import Derived.Test.YtccoopnoakhedaaWords
namespace Go.Proofs.Ytccoopnoakhedaa
set_option maxRecDepth 100000
open Go.RowKit

structure Ch where
  base : Int
  states : Int
  start : Int
  fin : Int
  tabs : List (List (List Int))
  places : List Int

/-- the block b holds a chain, in this world and behind it -/
structure ChAt (w : World) (b : Nat) (D : Ch) (a : Option Addr) (n c : Nat) (a' : Option Addr) (n' c' : Nat) : Prop where
  c0 : ∀ w', Ext w w' → w'.cell? ⟨b, 0, none⟩ = some (.int .i64 D.base)
  c1 : ∀ w', Ext w w' → w'.cell? ⟨b, 1, none⟩ = some (.int .i64 D.states)
  c2 : ∀ w', Ext w w' → w'.cell? ⟨b, 2, none⟩ = some (.int .i64 D.start)
  c3 : ∀ w', Ext w w' → w'.cell? ⟨b, 3, none⟩ = some (.int .i64 D.fin)
  c4 : ∀ w', Ext w w' → w'.cell? ⟨b, 4, none⟩ = some (.slice a n c)
  c5 : ∀ w', Ext w w' → w'.cell? ⟨b, 5, none⟩ = some (.slice a' n' c')
  ts : Cube w a n c D.tabs
  ps : Ints w a' n' c' D.places
theorem ChAt.ext {w w' : World} {b : Nat} {D : Ch} {a : Option Addr} {n c : Nat} {a' : Option Addr} {n' c' : Nat} (h : ChAt w b D a n c a' n' c') (hx : Ext w w') : ChAt w' b D a n c a' n' c' :=
  ⟨fun w' h' => h.c0 w' (hx.trans h'), fun w' h' => h.c1 w' (hx.trans h'), fun w' h' => h.c2 w' (hx.trans h'), fun w' h' => h.c3 w' (hx.trans h'), fun w' h' => h.c4 w' (hx.trans h'), fun w' h' => h.c5 w' (hx.trans h'), h.ts.ext hx, h.ps.ext hx⟩
def chVal (D : Ch) (a : Option Addr) (n c : Nat) (a' : Option Addr) (n' c' : Nat) : Value := .agg #[.int .i64 D.base, .int .i64 D.states, .int .i64 D.start, .int .i64 D.fin, .slice a n c, .slice a' n' c']
theorem ch_box (w : World) (D : Ch) (a : Option Addr) (n c : Nat) (a' : Option Addr) (n' c' : Nat) (T : TypeId) (h : Cube w a n c D.tabs) (h' : Ints w a' n' c' D.places) :
    ChAt (w.alloc (.cells #[.int .i64 D.base, .int .i64 D.states, .int .i64 D.start, .int .i64 D.fin, .slice a n c, .slice a' n' c'] T)) w.heap.size D a n c a' n' c' :=
  ⟨fun w' hx => hx.cell (by go_simp), fun w' hx => hx.cell (by go_simp), fun w' hx => hx.cell (by go_simp), fun w' hx => hx.cell (by go_simp), fun w' hx => hx.cell (by go_simp), fun w' hx => hx.cell (by go_simp), h.ext ((Ext.refl w).alloc _), h'.ext ((Ext.refl w).alloc _)⟩

/-- what the tables of a valid chain hold -/
structure OkCh (D : Ch) : Prop where
  b2 : 2 ≤ D.base
  b36 : D.base ≤ 36
  s1 : 1 ≤ D.states
  s36 : D.states ≤ 36
  st0 : 0 ≤ D.start
  st1 : D.start < D.states
  en0 : 0 ≤ D.fin
  en1 : D.fin < D.states
  t1 : 1 ≤ D.tabs.length
  t20 : D.tabs.length ≤ 20
  p1 : 1 ≤ D.places.length
  p20 : D.places.length ≤ 20
  pw : D.base ^ D.places.length ≤ 1000000000000000
  tl : ∀ t, t < D.tabs.length → ((gm D.tabs t).length : Int) = D.states
  rl : ∀ t, t < D.tabs.length → ∀ x, x < (gm D.tabs t).length → ((gl (gm D.tabs t) x).length : Int) = D.base
  el : ∀ t, t < D.tabs.length → ∀ x, x < (gm D.tabs t).length → ∀ d ∈ gl (gm D.tabs t) x, 0 ≤ d ∧ d < D.states
  pl : ∀ k ∈ D.places, 0 ≤ k ∧ k < D.tabs.length

def nextS (D : Ch) (p x d : Int) : Int := gi (gl (gm D.tabs (gi D.places p.toNat).toNat) x.toNat) d.toNat
theorem OkCh.tab {D : Ch} (h : OkCh D) {p : Int} (h0 : 0 ≤ p) (h1 : p < D.places.length) : 0 ≤ gi D.places p.toNat ∧ gi D.places p.toNat < D.tabs.length := h.pl _ (gi_mem (by omega))
theorem OkCh.next {D : Ch} (h : OkCh D) {p x d : Int} (hp0 : 0 ≤ p) (hp1 : p < D.places.length) (hx0 : 0 ≤ x) (hx1 : x < D.states) (hd0 : 0 ≤ d) (hd1 : d < D.base) : 0 ≤ nextS D p x d ∧ nextS D p x d < D.states := by
  obtain ⟨h1, h2⟩ := h.tab hp0 hp1
  have h3 := h.tl (gi D.places p.toNat).toNat (by omega)
  have h4 := h.rl (gi D.places p.toNat).toNat (by omega) x.toNat (by omega)
  exact h.el _ (by omega) x.toNat (by omega) _ (gi_mem (by omega))

set_option maxHeartbeats 1000000 in
theorem impl_next (D : Ch) (q : Nat) (a : Option Addr) (n c : Nat) (a' : Option Addr) (n' c' : Nat) (p x d : Int) (w : World) (hv : ChAt w q D a n c a' n' c') (hok : OkCh D)
    (hp0 : 0 ≤ p) (hp1 : p < D.places.length) (hx0 : 0 ≤ x) (hx1 : x < D.states) (hd0 : 0 ≤ d) (hd1 : d < D.base) :
    Calls Try.prog 49 #[.pointer (some ⟨q, 0, none⟩), .int .i64 p, .int .i64 x, .int .i64 d] w (Ret (.int .i64 (nextS D p x d)) w) := by
  obtain ⟨k0, k1, k2, k3, k4, k5, hts, hps⟩ := hv
  obtain ⟨g0, g1⟩ := hok.tab hp0 hp1
  have e1 := hok.tl (gi D.places p.toNat).toNat (by omega)
  have e2 := hok.rl (gi D.places p.toNat).toNat (by omega) x.toNat (by omega)
  have HN := Lib.hid (show nextS D p x d = gi (gl (gm D.tabs (gi D.places p.toNat).toNat) x.toNat) d.toNat from rfl)
  obtain ⟨b1, o1, f1, f2⟩ := hps.one (P := Try.prog) 25 2 und_int64s cell_int64 p hp0 (by rw [← hps.len]; exact hp1)
  obtain ⟨b2, o2, a2, n2, c2, ⟨f3, f4⟩, hm⟩ := hts.one (P := Try.prog) 24 53 und_tabs cell_tab1 (gi D.places p.toNat) g0 (by rw [← hts.len]; exact g1)
  obtain ⟨b3, o3, a3, n3, c3, ⟨f5, f6⟩, hr⟩ := hm.one (P := Try.prog) 53 25 und_rows cell_row1 x hx0 (by rw [← hm.len, e1]; exact hx1)
  obtain ⟨b4, o4, f7, f8⟩ := hr.one (P := Try.prog) 25 2 und_int64s cell_int64 d hd0 (by rw [← hr.len, e2]; exact hd1)
  clear hok e1 e2 hts hps hm hr
  go_enter Try.func49, Try.ntmps49
  go_wp2
  (refine wp_region_up (by kernel_rfl) (by kernel_rfl) (by kernel_rfl) ?_; (repeat (first | (refine mix_q rfl ?_; go_big_quiet_step (fail); refine wpQuiet_nil ?_; show wpMix _ _ _ _ _ _ _) | (refine mix_s rfl ?_; go_wp2_with (fail); first | refine ⟨up_of (by repeat (first | (with_reducible exact Ext.refl _) | (with_reducible refine Ext.drewN ?_ _) | (with_reducible refine Ext.drew ?_) | (with_reducible refine Ext.alloc ?_ _) | ((with_reducible refine Ext.setCell ?_ ?_ _); rotate_left; focus (first | (simp; done) | (simp; omega) | omega)) | assumption | (with_reducible refine Ext.trans ?_ (by assumption)))), ?_⟩ | refine ⟨rfl, rfl, up_of (by repeat (first | (with_reducible exact Ext.refl _) | (with_reducible refine Ext.drewN ?_ _) | (with_reducible refine Ext.drew ?_) | (with_reducible refine Ext.alloc ?_ _) | ((with_reducible refine Ext.setCell ?_ ?_ _); rotate_left; focus (first | (simp; done) | (simp; omega) | omega)) | assumption | (with_reducible refine Ext.trans ?_ (by assumption)))), ?_⟩))); refine mix_nil ?_)
  go_wp2
  go_ret
  exact ⟨ri HN.out.symm, (by repeat (first | (with_reducible exact Ext.refl _) | (with_reducible refine Ext.drewN ?_ _) | (with_reducible refine Ext.drew ?_) | (with_reducible refine Ext.alloc ?_ _) | ((with_reducible refine Ext.setCell ?_ ?_ _); rotate_left; focus (first | (simp; done) | (simp; omega) | omega)) | assumption | (with_reducible refine Ext.trans ?_ (by assumption))))⟩

/-- the state behind symbols -/
def runS (D : Ch) : Int → Int → List Int → Int
  | _, x, [] => x
  | p, x, d :: ds => runS D (p + 1) (nextS D p x d) ds
theorem runS_snoc (D : Ch) : ∀ (ds : List Int) (p x d : Int), runS D p x (ds ++ [d]) = nextS D (p + ds.length) (runS D p x ds) d
  | [], p, x, d => by simp [runS]
  | e :: ds, p, x, d => by
    rw [List.cons_append, runS, runS_snoc D ds]
    simp only [runS, List.length_cons]
    congr 1
    omega
theorem runS_step (D : Ch) {ds : List Int} {k : Nat} (h : k < ds.length) (p x : Int) : runS D p x (ds.take (k + 1)) = nextS D (p + k) (runS D p x (ds.take k)) (gi ds k) := by
  rw [take_gi h, runS_snoc, List.length_take, Nat.min_eq_left (by omega)]
/-- all symbols are below the base -/
def DigC (D : Ch) (ds : List Int) : Prop := ∀ d ∈ ds, 0 ≤ d ∧ d < D.base
theorem DigC.at {D : Ch} {ds : List Int} (h : DigC D ds) {k : Nat} (hk : k < ds.length) : 0 ≤ gi ds k ∧ gi ds k < D.base := h _ (gi_mem hk)
theorem DigC.take {D : Ch} {ds : List Int} (h : DigC D ds) (k : Nat) : DigC D (ds.take k) := fun d hd => h d (List.mem_of_mem_take hd)
theorem runS_bd {D : Ch} (hok : OkCh D) : ∀ (ds : List Int) (p x : Int), DigC D ds → 0 ≤ p → p + ds.length ≤ D.places.length → 0 ≤ x → x < D.states → 0 ≤ runS D p x ds ∧ runS D p x ds < D.states
  | [], p, x, _, _, _, h1, h2 => ⟨h1, h2⟩
  | d :: ds, p, x, hd, h0, hl, h1, h2 => by
    simp only [List.length_cons] at hl
    have hd0 := hd d (List.mem_cons_self ..)
    have h3 := hok.next h0 (by omega) h1 h2 hd0.1 hd0.2
    exact runS_bd hok ds (p + 1) _ (fun e he => hd e (List.mem_cons_of_mem _ he)) (by omega) (by omega) h3.1 h3.2

set_option maxHeartbeats 1000000 in
theorem impl_leads (D : Ch) (q : Nat) (a : Option Addr) (n c : Nat) (a' : Option Addr) (n' c' : Nat) (p x : Int) (b : Option Addr) (m e : Nat) (ds : List Int) (w : World) (hv : ChAt w q D a n c a' n' c') (hok : OkCh D)
    (hp0 : 0 ≤ p) (hx0 : 0 ≤ x) (hx1 : x < D.states) (hi : Ints w b m e ds) (hd : DigC D ds) (hpm : p + m ≤ D.places.length) :
    Calls Try.prog 48 #[.pointer (some ⟨q, 0, none⟩), .int .i64 p, .int .i64 x, .slice b m e] w (Ret (.int .i64 (runS D p x ds)) w) := by
  have HL := Lib.hid hi.len
  have hp20 := hok.p20
  have hs36 := hok.s36
  obtain ⟨b1, off, hix, hcell⟩ := hi.ix (P := Try.prog) 25 2 und_int64s cell_int64
  have Hhv := Lib.hid hv; clear hv; have Hhok := Lib.hid hok; clear hok; have Hhi := Lib.hid hi; clear hi; have Hhd := Lib.hid hd; clear hd
  go_enter Try.func48, Try.ntmps48
  go_wp2
  go_loopw [2, 9, 10, 13] (fun s _ _ i wr => ∃ k : Nat, k ≤ m ∧ i = .int .i64 k ∧ s = .int .i64 (runS D p x (ds.take k)) ∧ Ext w wr) (fun _ _ _ i _ => m - (intOf i).toNat)
  case atStart => exact ⟨0, Nat.zero_le _, rfl, rfl, Ext.refl _⟩
  case round =>
    obtain ⟨k, hk, rfl, rfl, hx⟩ := hrel
    by_cases hlt : k < m
    · have HS := Lib.hid (runS_step D (ds := ds) (k := k) (by rw [HL.out]; exact hlt) p x)
      obtain ⟨r0, r1⟩ := runS_bd Hhok.out (ds.take k) p x (Hhd.out.take k) hp0 (by rw [List.length_take, HL.out]; omega) hx0 hx1
      obtain ⟨d0, d1⟩ := Hhd.out.at (k := k) (by rw [HL.out]; exact hlt)
      generalize runS D p x (ds.take k) = s at *
      go_wp2_with ((with_reducible refine (impl_next D q a n c a' n' c' (p + k) s (gi ds k) _ (Hhv.out.ext (by repeat (first | (with_reducible exact Ext.refl _) | (with_reducible refine Ext.drewN ?_ _) | (with_reducible refine Ext.drew ?_) | (with_reducible refine Ext.alloc ?_ _) | ((with_reducible refine Ext.setCell ?_ ?_ _); rotate_left; focus (first | (simp; done) | (simp; omega) | omega)) | assumption | (with_reducible refine Ext.trans ?_ (by assumption))))) Hhok.out (by omega) (by omega) r0 r1 d0 d1).mono ?_); rintro e w1 ⟨rfl, hy⟩; have hxw1 : Ext w w1 := Ext.trans (by repeat (first | (with_reducible exact Ext.refl _) | (with_reducible refine Ext.drewN ?_ _) | (with_reducible refine Ext.drew ?_) | (with_reducible refine Ext.alloc ?_ _) | ((with_reducible refine Ext.setCell ?_ ?_ _); rotate_left; focus (first | (simp; done) | (simp; omega) | omega)) | assumption | (with_reducible refine Ext.trans ?_ (by assumption)))) hy)
      exact ⟨⟨k + 1, by omega, by go_num, by rw [HS.out], hxw1⟩, by simp [intOf]; omega⟩
    · obtain rfl : k = m := by omega
      go_wp2
      go_ret
      exact ⟨ri (by rw [take_full (by rw [HL.out]; exact Nat.le_refl _)]), hx⟩
end Go.Proofs.Ytccoopnoakhedaa
