/- Plain: a chain whose steps are one to one catches all single errors. Conditions: none. -/
import Derived.Test.YtaiieodllhoelaaUndI
import Derived.Test.YtaiieodllhoelaaAddW
import Derived.Test.YtaiieodllhoelaaKnL
namespace Go.Proofs.Ytaiieodllhoelaa
set_option maxRecDepth 100000
open Go.RowKit

/-- steps are one to one, in the state and in the digit, where states can be reached -/
structure OneOne (D : Ch) (n' : Nat) (R : Nat → Int → Prop) : Prop where
  h0 : R 0 D.start
  hR : ∀ (k : Nat) (x d : Int), k < n' → 0 ≤ x → x < D.states → R k x → 0 ≤ d → d < D.base → R (k + 1) (nextS D k x d)
  hs : ∀ (k : Nat) (x y d : Int), k < n' → 0 ≤ x → x < D.states → 0 ≤ y → y < D.states → R k x → R k y → 0 ≤ d → d < D.base → nextS D k x d = nextS D k y d → x = y
  hd : ∀ (k : Nat) (x d e : Int), k < n' → 0 ≤ x → x < D.states → R k x → 0 ≤ d → d < D.base → 0 ≤ e → e < D.base → nextS D k x d = nextS D k x e → d = e

theorem sum_zero {l : List Int} (h : ∀ x ∈ l, x = 0) : l.sum = 0 := by
  induction l with
  | nil => rfl
  | cons a l ih => rw [List.sum_cons, h a (by simp), ih fun x hx => h x (by simp [hx])]; rfl

theorem both_zero {D : Ch} {n' : Nat} {R : Nat → Int → Prop} (hok : OkCh D) (hn : D.places.length = n') (h : OneOne D n' R) :
    ∀ (r : Nat), r ≤ n' → ∀ s t : Int, 0 ≤ s → s < D.states → 0 ≤ t → t < D.states → R (n' - r) s → R (n' - r) t → s ≠ t → bothS D n' r s t = 0
  | 0, _, s, t, _, _, _, _, _, _, hne => by
    unfold bothS
    rw [if_neg fun ⟨h1, h2⟩ => hne (h1.trans h2.symm)]
  | r + 1, hr, s, t, s0, s1, t0, t1, rs, rt, hne => by
    unfold bothS
    refine sum_zero fun v hv => ?_
    obtain ⟨d, hd, rfl⟩ := List.mem_map.1 hv
    have hd2 := List.mem_range.1 hd
    have hb := hok.b2
    have hk : n' - (r + 1) < n' := by omega
    have a1 := hok.next (p := ((n' - (r + 1) : Nat) : Int)) (by omega) (by omega) s0 s1 (d := d) (by omega) (by omega)
    have a2 := hok.next (p := ((n' - (r + 1) : Nat) : Int)) (by omega) (by omega) t0 t1 (d := d) (by omega) (by omega)
    have b1 := h.hR _ s d hk s0 s1 rs (by omega) (by omega)
    have b2 := h.hR _ t d hk t0 t1 rt (by omega) (by omega)
    rw [show n' - (r + 1) + 1 = n' - r by omega] at b1 b2
    exact both_zero hok hn h r (by omega) _ _ a1.1 a1.2 a2.1 a2.2 b1 b2 fun he => hne (h.hs _ s t d hk s0 s1 t0 t1 rs rt (by omega) (by omega) he)

theorem sep_of {D : Ch} {n' S : Nat} {R : Nat → Int → Prop} (hok : OkCh D) (hn : D.places.length = n') (hS : D.states = (S : Int)) (h : OneOne D n' R) : Sep D n' S := by
  intro pl hpl x y x0 x1 y0 y1 hxy s hs hg
  have hr := begL_in hok hS R h.h0 (fun k x d hk => by rw [hn] at hk; rw [← hS]; exact h.hR k x d hk) pl (by omega) s hs hg
  have a1 := hok.next (p := (pl : Int)) (x := (s : Int)) (by omega) (by omega) (by omega) (by omega) x0 x1
  have a2 := hok.next (p := (pl : Int)) (x := (s : Int)) (by omega) (by omega) (by omega) (by omega) y0 y1
  have b1 := h.hR pl s x (by omega) (by omega) (by omega) hr x0 x1
  have b2 := h.hR pl s y (by omega) (by omega) (by omega) hr y0 y1
  rw [show pl + 1 = n' - (n' - (pl + 1)) by omega] at b1 b2
  simp only [runS]
  exact both_zero hok hn h _ (by omega) _ _ a1.1 a1.2 a2.1 a2.2 b1 b2 fun he => hxy (h.hd pl s x y (by omega) (by omega) (by omega) hr x0 x1 y0 y1 he)

/-- a chain that adds, of lists that are one to one -/
theorem add_one {base m target : Int} {ls : List (List Int)} (h : AddOk base m target ls) (hi : ∀ p, p < ls.length → ∀ d e : Nat, (d : Int) < base → (e : Int) < base → gi (gl ls p) d % m = gi (gl ls p) e % m → d = e) :
    OneOne (addCh base m target ls) ls.length fun _ _ => True := by
  have hm := h.m1
  refine ⟨trivial, fun _ _ _ _ _ _ _ _ _ => trivial, ?_, ?_⟩
  · intro k x y d hk x0 x1 y0 y1 _ _ d0 d1 he
    change x < m at x1; change y < m at y1; change d < base at d1
    obtain ⟨x, rfl⟩ := Int.eq_ofNat_of_zero_le x0
    obtain ⟨y, rfl⟩ := Int.eq_ofNat_of_zero_le y0
    obtain ⟨d, rfl⟩ := Int.eq_ofNat_of_zero_le d0
    rw [addCh_next h hk x1 d1, addCh_next h hk y1 d1] at he
    generalize gi (gl ls k) d = g at he
    have h1 := Int.emod_emod_of_dvd ((x : Int) + g) (Int.dvd_refl m)
    have h2 : (((x : Int) + g) - ((y : Int) + g)) % m = 0 := Int.emod_emod_of_dvd _ (Int.dvd_refl m) ▸ (Int.emod_eq_emod_iff_emod_sub_eq_zero.1 he)
    rw [show ((x : Int) + g) - ((y : Int) + g) = (x : Int) - y by omega] at h2
    have h3 := Int.emod_eq_emod_iff_emod_sub_eq_zero.2 h2
    rwa [Int.emod_eq_of_lt (by omega) x1, Int.emod_eq_of_lt (by omega) y1] at h3
  · intro k x d e hk x0 x1 _ d0 d1 e0 e1 he
    change x < m at x1; change d < base at d1; change e < base at e1
    obtain ⟨x, rfl⟩ := Int.eq_ofNat_of_zero_le x0
    obtain ⟨d, rfl⟩ := Int.eq_ofNat_of_zero_le d0
    obtain ⟨e, rfl⟩ := Int.eq_ofNat_of_zero_le e0
    rw [addCh_next h hk x1 d1, addCh_next h hk x1 e1] at he
    have h2 := Int.emod_eq_emod_iff_emod_sub_eq_zero.1 he
    rw [show ((x : Int) + gi (gl ls k) d) - ((x : Int) + gi (gl ls k) e) = gi (gl ls k) d - gi (gl ls k) e by omega] at h2
    have := hi k hk d e d1 e1 (Int.emod_eq_emod_iff_emod_sub_eq_zero.2 h2)
    omega
end Go.Proofs.Ytaiieodllhoelaa

/- Plain: the chain with two moduli: valid, and its steps are one to one. Conditions: none. -/
namespace Go.Proofs.Ytaiieodllhoelaa
set_option maxRecDepth 100000
open Go.RowKit

def hybY (x d : Nat) : Nat := if (x + d) % 10 = 0 then 10 else (x + d) % 10
def hybI (x : Nat) : List Int := (List.range 10).map fun d => ((2 * hybY x d % 11 : Nat) : Int)
def hybB (x : Nat) : List Int := (List.range 10).map fun d => (((x + d) % 10 : Nat) : Int)
def hybIn : List (List Int) := (List.range 11).map hybI
def hybLa : List (List Int) := (List.range 11).map hybB
/-- the chain of n places, two at least -/
def hybCh (n : Nat) : Ch := ⟨10, 11, 10, 1, [hybIn, hybLa], List.replicate (n - 1) 0 ++ [1]⟩
theorem hyb_valid {n : Nat} (h0 : 2 ≤ n) (h1 : n ≤ 6) : validCh (hybCh n) = true := by
  have h : n = 2 ∨ n = 3 ∨ n = 4 ∨ n = 5 ∨ n = 6 := by omega
  rcases h with rfl | rfl | rfl | rfl | rfl <;> decide +kernel
theorem hyb_at0 {n k : Nat} (h : k + 1 < n) : gi (hybCh n).places k = 0 := by
  rw [gi_get (by simp [hybCh]; omega)]
  simp only [hybCh]
  rw [List.getElem_append_left (by simp; omega), List.getElem_replicate]
theorem hyb_at1 {n k : Nat} (h : k + 1 = n) : gi (hybCh n).places k = 1 := by
  subst h
  rw [gi_get (by simp [hybCh])]
  simp only [hybCh]
  rw [List.getElem_append_right (by simp)]
  simp
theorem hyb_next {n k : Nat} (h : k < n) (x d : Nat) : nextS (hybCh n) k x d = gi (gl (if k + 1 < n then hybIn else hybLa) x) d := by
  unfold nextS
  simp only [Int.toNat_natCast]
  by_cases h1 : k + 1 < n
  · rw [if_pos h1, hyb_at0 h1]; rfl
  · rw [if_neg h1, hyb_at1 (by omega)]; rfl
def tabS (t : List (List Int)) : Bool := (List.range 10).all fun x => (List.range 10).all fun y => (List.range 10).all fun d => decide (gi (gl t (x + 1)) d = gi (gl t (y + 1)) d → x = y)
def tabD (t : List (List Int)) : Bool := (List.range 10).all fun x => (List.range 10).all fun d => (List.range 10).all fun e => decide (gi (gl t (x + 1)) d = gi (gl t (x + 1)) e → d = e)
theorem tabS_at {t : List (List Int)} (h : tabS t = true) {x y d : Nat} (hx : x < 10) (hy : y < 10) (hd : d < 10) : gi (gl t (x + 1)) d = gi (gl t (y + 1)) d → x = y :=
  of_decide_eq_true (List.all_eq_true.1 (List.all_eq_true.1 (List.all_eq_true.1 h x (List.mem_range.2 hx)) y (List.mem_range.2 hy)) d (List.mem_range.2 hd))
theorem tabD_at {t : List (List Int)} (h : tabD t = true) {x d e : Nat} (hx : x < 10) (hd : d < 10) (he : e < 10) : gi (gl t (x + 1)) d = gi (gl t (x + 1)) e → d = e :=
  of_decide_eq_true (List.all_eq_true.1 (List.all_eq_true.1 (List.all_eq_true.1 h x (List.mem_range.2 hx)) d (List.mem_range.2 hd)) e (List.mem_range.2 he))
theorem hybIn_s : tabS hybIn = true := by decide +kernel
theorem hybLa_s : tabS hybLa = true := by decide +kernel
theorem hybIn_d : tabD hybIn = true := by decide +kernel
theorem hybLa_d : tabD hybLa = true := by decide +kernel
theorem hybIn_bd : ∀ x, x < 11 → ∀ d, d < 10 → 1 ≤ gi (gl hybIn x) d := by decide +kernel
theorem hyb_one {n : Nat} (_h0 : 2 ≤ n) : OneOne (hybCh n) n fun k x => k < n → 1 ≤ x := by
  have hos : ∀ k, tabS (if k + 1 < n then hybIn else hybLa) = true := fun k => by split; exact hybIn_s; exact hybLa_s
  have hod : ∀ k, tabD (if k + 1 < n then hybIn else hybLa) = true := fun k => by split; exact hybIn_d; exact hybLa_d
  refine ⟨fun _ => by simp [hybCh], ?_, ?_, ?_⟩
  · intro k x d hk x0 x1 hr d0 d1 hk2
    change x < 11 at x1; change d < 10 at d1
    obtain ⟨x, rfl⟩ := Int.eq_ofNat_of_zero_le x0
    obtain ⟨d, rfl⟩ := Int.eq_ofNat_of_zero_le d0
    rw [hyb_next hk, if_pos hk2]
    exact hybIn_bd x (by omega) d (by omega)
  · intro k x y d hk x0 x1 y0 y1 rx ry d0 d1 he
    change x < 11 at x1; change y < 11 at y1; change d < 10 at d1
    have rx := rx hk; have ry := ry hk
    obtain ⟨x, rfl⟩ := Int.eq_ofNat_of_zero_le x0
    obtain ⟨y, rfl⟩ := Int.eq_ofNat_of_zero_le y0
    obtain ⟨d, rfl⟩ := Int.eq_ofNat_of_zero_le d0
    rw [hyb_next hk, hyb_next hk] at he
    have h := tabS_at (hos k) (x := x - 1) (y := y - 1) (d := d) (by omega) (by omega) (by omega)
    rw [show x - 1 + 1 = x by omega, show y - 1 + 1 = y by omega] at h
    have := h he
    omega
  · intro k x d e hk x0 x1 rx d0 d1 e0 e1 he
    change x < 11 at x1; change d < 10 at d1; change e < 10 at e1
    have rx := rx hk
    obtain ⟨x, rfl⟩ := Int.eq_ofNat_of_zero_le x0
    obtain ⟨d, rfl⟩ := Int.eq_ofNat_of_zero_le d0
    obtain ⟨e, rfl⟩ := Int.eq_ofNat_of_zero_le e0
    rw [hyb_next hk, hyb_next hk] at he
    have h := tabD_at (hod k) (x := x - 1) (d := d) (e := e) (by omega) (by omega) (by omega)
    rw [show x - 1 + 1 = x by omega] at h
    have := h he
    omega
end Go.Proofs.Ytaiieodllhoelaa

/- Walks: the well known chain with doubled digits; single errors of the well known chains. -/
namespace Go.Proofs.Ytaiieodllhoelaa
set_option maxRecDepth 100000
open Go.RowKit

set_option maxHeartbeats 4000000 in
theorem impl_Known0 (n : Nat) (w : World) (h0 : 1 ≤ n) (h1 : n ≤ 10) : Calls Try.prog 62 #[.int .i64 0, .int .i64 n] w (RetChB (addCh 10 10 0 (luhL n)) w) := by
  have HPw := Lib.hid (fun W => impl_power 10 1000000000000000 n W (by omega) (by omega) (by omega) (by omega) (by omega))
  rw [show decide ((10 : Int) ^ n ≤ 1000000000000000) = true from decide_eq_true (by have := (luh_ok h0 h1).pw; rwa [luhL_len] at this)] at HPw
  have HIn := Lib.hid (fun W => impl_in (n : Int) 1 20 W)
  rw [show inB (n : Int) 1 20 = true from inB_t.2 (by omega)] at HIn
  have HKb := Lib.hid (fun W => impl_knownBase 0 (by omega) (by omega) W)
  rw [show knB 0 = 10 from rfl] at HKb
  have HLu := Lib.hid (fun W => impl_luhn n W h0 h1)
  go_enter Try.func62, Try.ntmps62
  go_wp2_with (first | ((with_reducible refine (HKb.out _).mono ?_); rintro e w1 ⟨rfl, rfl⟩) | ((with_reducible refine (HIn.out _).mono ?_); rintro e w1 ⟨rfl, rfl⟩) | ((with_reducible refine (HPw.out _).mono ?_); rintro e w1 ⟨rfl, rfl⟩))
  obtain ⟨g, hg⟩ : ∃ g, g = w.heap.size := ⟨_, rfl⟩
  obtain ⟨wz, hwz⟩ : ∃ W, W = (w.alloc (.cells #[.int .i64 0, .int .i64 0, .int .i64 0, .int .i64 0, .slice none 0 0, .slice none 0 0] 27)).alloc (.cells #[.int .i64 10, .int .i64 10, .int .i64 0, .slice none 0 0] 72) := ⟨_, rfl⟩
  have hxz : Ext w wz := by rw [hwz]; exact (by repeat (first | (with_reducible exact Ext.refl _) | (with_reducible refine Ext.drewN ?_ _) | (with_reducible refine Ext.drew ?_) | (with_reducible refine Ext.alloc ?_ _) | ((with_reducible refine Ext.setCell ?_ ?_ _); rotate_left; focus (first | (simp; done) | (simp; omega) | omega)) | assumption | (with_reducible refine Ext.trans ?_ (by assumption))))
  have HZ := Lib.hid (show SAt wz g 27 #[.int .i64 0, .int .i64 0, .int .i64 0, .int .i64 0, .slice none 0 0, .slice none 0 0] from by rw [hwz, hg]; exact (SAt.new' w #[.int .i64 0, .int .i64 0, .int .i64 0, .int .i64 0, .slice none 0 0, .slice none 0 0] 27 rfl).alloc _)
  have hgw : w.heap.size ≤ g := by omega
  have hgz : g < wz.heap.size := HZ.out.lt
  rw [← hwz, ← hg]
  clear hwz hg
  go_wp2_with ((with_reducible refine (HLu.out _).mono ?_); rintro e w8 ⟨a8, x8, d8, b8, y8, g8, rfl, hch, hy8⟩; have hx8 : Ext w w8 := Ext.trans hxz hy8; have HCh := Lib.hid hch; have HZ8 := Lib.hid (HZ.out.ext hy8); have z0 := HZ8.out.cell 0 (by simp); have z1 := HZ8.out.cell 1 (by simp); have z2 := HZ8.out.cell 2 (by simp); have z3 := HZ8.out.cell 3 (by simp); have z4 := HZ8.out.cell 4 (by simp); have z5 := HZ8.out.cell 5 (by simp); have fr := fun j => HZ8.out.frozen j; have hltz := HZ8.out.lt; (try simp only [List.getElem_toArray, List.getElem_cons_succ, List.getElem_cons_zero] at z0 z1 z2 z3 z4 z5); clear hch)
  generalize hDD : addCh 10 10 0 (luhL n) = DD at *
  refine bodyPost_ret (v := .tuple #[.agg #[.int .i64 DD.base, .int .i64 DD.states, .int .i64 DD.start, .int .i64 DD.fin, .slice a8 x8 d8, .slice b8 y8 g8], .bool true]) ?_ rfl ?_
  · simp [results, Try.results62, go_sem, z0, z1, z2, z3, z4, z5]
  · refine ⟨a8, x8, d8, b8, y8, g8, rfl, HCh.out _ ?_, ?_⟩
    · repeat (first | with_reducible exact KeepB.refl _ _ _ | (with_reducible refine KeepB.setB ?_ _ _ (Or.inl ?_); rotate_left; (focus (simp <;> omega))))
    · repeat (first | with_reducible exact hx8 | with_reducible refine Ext.setCell ?_ hgw _)
/-- lists whose remainders are all different -/
def DiffB (m : Int) (l : List Int) : Bool := decide (∀ d, d < l.length → ∀ e, e < l.length → gi l d % m = gi l e % m → d = e)
theorem luh_one {n : Nat} (h0 : 1 ≤ n) (h1 : n ≤ 10) : OneOne (addCh 10 10 0 (luhL n)) n fun _ _ => True := by
  have h := add_one (luh_ok h0 h1) fun p hp d e hd he hx => by
    have hb : DiffB 10 (gl (luhL n) p) = true ∧ (gl (luhL n) p).length = 10 := by
      rcases luhL_mem (gl_mem hp) with h | h <;> rw [h] <;> exact ⟨by decide, rfl⟩
    exact of_decide_eq_true hb.1 d (by rw [hb.2]; omega) e (by rw [hb.2]; omega) hx
  rwa [luhL_len] at h
theorem knW_one {k : Int} {n : Nat} (h : KnOk k n) : OneOne (wtCh (knW k n)) n fun _ _ => True := by
  have hv := validB_addOk (knW_valid h)
  have h1 := add_one hv fun p hp d e hd he hx => by
    rw [List.length_map] at hp
    have hm : gi (knW k n).weights p ∈ (knW k n).weights := gi_mem hp
    have hg : gl ((knW k n).weights.map (wgL (knW k n).base.toNat)) p = wgL (knW k n).base.toNat (gi (knW k n).weights p) := by
      rw [gl_get (by rw [List.length_map]; exact hp), List.getElem_map, gi_get hp]
    rw [hg] at hx
    generalize gi (knW k n).weights p = x at hm hx
    have hall : ((knW k n).weights.all fun x => DiffB (knW k n).base (wgL (knW k n).base.toNat x)) = true := by
      rcases h with ⟨rfl, h1, h2⟩ | ⟨rfl, rfl⟩ | ⟨rfl, h1, h2⟩
      · have h : n = 2 ∨ n = 3 ∨ n = 4 ∨ n = 5 ∨ n = 6 := by omega
        rcases h with rfl | rfl | rfl | rfl | rfl <;> decide +kernel
      · decide +kernel
      · have h : n = 2 ∨ n = 3 ∨ n = 4 ∨ n = 5 ∨ n = 6 := by omega
        rcases h with rfl | rfl | rfl | rfl | rfl <;> decide +kernel
    have hd2 := List.all_eq_true.1 hall x hm
    have hl : (wgL (knW k n).base.toNat x).length = (knW k n).base.toNat := wgL_len _ _
    exact of_decide_eq_true hd2 d (by rw [hl]; omega) e (by rw [hl]; omega) hx
  have hl : ((knW k n).weights.map (wgL (knW k n).base.toNat)).length = n := by rw [List.length_map]; exact fromL_len _ _
  rw [hl] at h1
  exact h1
end Go.Proofs.Ytaiieodllhoelaa

/- Plain: some symbol at the last place ends a well known chain. Conditions: none. -/
namespace Go.Proofs.Ytaiieodllhoelaa
set_option maxRecDepth 100000
open Go.RowKit

/-- from each state that can be reached before the last place, some digit leads to the end -/
def LastSome (D : Ch) (n : Nat) (R : Nat → Int → Prop) : Prop := ∀ x : Int, 0 ≤ x → x < D.states → R (n - 1) x → ∃ d : Int, 0 ≤ d ∧ d < D.base ∧ nextS D ((n - 1 : Nat) : Int) x d = D.fin
theorem idL_gi {n d : Nat} (h : d < n) : gi (idL n) d = d := by
  rw [gi_get (by rw [idL_len]; exact h)]; simp [idL]
theorem luh_last {n : Nat} (h0 : 1 ≤ n) (h1 : n ≤ 10) : LastSome (addCh 10 10 0 (luhL n)) n fun _ _ => True := by
  intro x x0 x1 _
  change x < 10 at x1
  obtain ⟨x, rfl⟩ := Int.eq_ofNat_of_zero_le x0
  refine ⟨((10 - x) % 10 : Nat), by omega, by show (((10 - x) % 10 : Nat) : Int) < 10; omega, ?_⟩
  rw [addCh_next (luh_ok h0 h1) (by rw [luhL_len]; omega) x1 (by omega)]
  have hg : gl (luhL n) (n - 1) = idL 10 := by
    rw [gl_get (by rw [luhL_len]; omega)]
    simp only [luhL, List.getElem_map, List.getElem_range, luhR]
    rw [if_pos (by omega)]
  rw [hg, idL_gi (by omega)]
  show ((x : Int) + ((10 - x) % 10 : Nat)) % 10 = 0
  omega
theorem knF_zero (k : Int) : knF k 0 = 1 := by unfold knF; split; rfl; split <;> rfl
theorem knW_last {k : Int} {n : Nat} (h : KnOk k n) : LastSome (wtCh (knW k n)) n fun _ _ => True := by
  intro x x0 x1 _
  have hv := validB_addOk (knW_valid h)
  have hl : ((knW k n).weights.map (wgL (knW k n).base.toNat)).length = n := by rw [List.length_map]; exact fromL_len _ _
  have hn : 1 ≤ n := by rcases h with h | h | h <;> omega
  have hg : gl ((knW k n).weights.map (wgL (knW k n).base.toNat)) (n - 1) = wgL (knW k n).base.toNat 1 := by
    have hp : n - 1 < (knW k n).weights.length := by rw [show (knW k n).weights.length = n from fromL_len _ _]; omega
    rw [gl_get (by rw [List.length_map]; exact hp), List.getElem_map]
    congr 1
    simp only [knW, fromL, List.getElem_map, List.getElem_range]
    rw [show (n : Int) - 1 - ((n - 1 : Nat) : Int) = 0 by omega, knF_zero]
  have hw : ∀ b d : Nat, d < b → gi (wgL b 1) d = d := fun b d hd => by
    rw [gi_get (by rw [wgL_len]; exact hd)]; simp [wgL]
  obtain ⟨x, rfl⟩ := Int.eq_ofNat_of_zero_le x0
  have hnx : ∀ d : Nat, (d : Int) < (knW k n).base → nextS (wtCh (knW k n)) ((n - 1 : Nat) : Int) x d = ((x : Int) + d) % (knW k n).modulus := fun d hd => by
    unfold wtCh
    rw [addCh_next hv (by omega) x1 hd, hg, hw _ _ (by omega)]
  change (x : Int) < (knW k n).modulus at x1
  have hc : (k = 1 ∧ (knW k n).modulus = 10 ∧ (knW k n).base = 10 ∧ (knW k n).target = 0) ∨ ((knW k n).modulus = 11 ∧ (knW k n).base = 11 ∧ ((knW k n).target = 0 ∨ (knW k n).target = 1)) := by
    rcases h with ⟨rfl, _⟩ | ⟨rfl, _⟩ | ⟨rfl, _⟩
    · exact .inl ⟨rfl, rfl, rfl, rfl⟩
    · exact .inr ⟨rfl, rfl, .inl rfl⟩
    · exact .inr ⟨rfl, rfl, .inr rfl⟩
  rcases hc with ⟨_, h1, h2, h3⟩ | ⟨h1, h2, h3⟩
  · rw [h1] at x1 hnx; rw [h2] at hnx
    refine ⟨((10 - x) % 10 : Nat), by omega, by show (((10 - x) % 10 : Nat) : Int) < (knW k n).base; omega, ?_⟩
    rw [hnx _ (by omega)]
    show _ = (knW k n).target
    omega
  · rw [h1] at x1 hnx; rw [h2] at hnx
    rcases h3 with h3 | h3
    · refine ⟨((11 - x) % 11 : Nat), by omega, by show (((11 - x) % 11 : Nat) : Int) < (knW k n).base; omega, ?_⟩
      rw [hnx _ (by omega)]
      show _ = (knW k n).target
      omega
    · refine ⟨((12 - x) % 11 : Nat), by omega, by show (((12 - x) % 11 : Nat) : Int) < (knW k n).base; omega, ?_⟩
      rw [hnx _ (by omega)]
      show _ = (knW k n).target
      omega
theorem hybLa_at : ∀ x, x < 11 → ∀ d, d < 10 → gi (gl hybLa x) d = (((x + d) % 10 : Nat) : Int) := by decide +kernel
theorem hyb_last {n : Nat} (h0 : 2 ≤ n) : LastSome (hybCh n) n fun k x => k < n → 1 ≤ x := by
  intro x x0 x1 hr
  change x < 11 at x1
  have hr := hr (by omega)
  obtain ⟨x, rfl⟩ := Int.eq_ofNat_of_zero_le x0
  refine ⟨((11 - x) % 10 : Nat), by omega, by show (((11 - x) % 10 : Nat) : Int) < 10; omega, ?_⟩
  rw [hyb_next (by omega), if_neg (by omega), hybLa_at x (by omega) _ (by omega)]
  show _ = (1 : Int)
  omega
end Go.Proofs.Ytaiieodllhoelaa
