/- Walks: the law on the least modulus. -/
import Derived.Test.YtlpbflmgkopklaaLm3
import Derived.Test.YtlpbflmgkopklaaDraw
import Derived.Deep.RegionLaw
namespace Go.Proofs.Ytlpbflmgkopklaa
set_option maxRecDepth 100000
open Go.RowKit

def catB (W : Wt) (k : Int) : Bool := validB W && (kindB k W.base && decide (allF W k = 0))
set_option maxHeartbeats 1000000 in
theorem impl_WC (W : Wt) (a : Option Addr) (n c : Nat) (k : Int) (w : World) (hw : Ints w a n c W.weights) :
    Calls Try.prog 19 #[.agg #[.int .i64 W.base, .int .i64 W.modulus, .int .i64 W.target, .slice a n c], .int .i64 k] w (Ret (.bool (catB W k)) w) := by
  obtain ⟨base, modulus, target, l⟩ := W
  simp only at hw ⊢
  have HB := Lib.hid (isWt_box w base modulus target l a n c 34 hw)
  have HV := Lib.hid (fun W' (h : Ext w W') => impl_valid ⟨base, modulus, target, l⟩ a n c W' (hw.ext h))
  have HK := Lib.hid (fun W' => impl_kind k base W')
  clear hw
  cases hv : validB ⟨base, modulus, target, l⟩
  · rw [hv] at HV
    have HO := Lib.hid (show catB ⟨base, modulus, target, l⟩ k = false by rw [catB, hv]; rfl)
    clear hv
    go_enter Try.func19, Try.ntmps19
    go_wp2_with ((with_reducible refine (HV.out _ (by repeat (first | (with_reducible exact Ext.refl _) | (with_reducible assumption) | (with_reducible refine Ext.drewN ?_ _) | (with_reducible refine Ext.drew ?_) | (with_reducible refine Ext.alloc ?_ _) | ((with_reducible refine Ext.setCell ?_ ?_ _); rotate_left; focus (first | (simp; done) | (simp; omega) | omega)) | (with_reducible refine Ext.trans ?_ (by with_reducible assumption))))).mono ?_); rintro e w1 ⟨rfl, hy⟩; have hx1 : Ext w w1 := Ext.trans (by repeat (first | (with_reducible exact Ext.refl _) | (with_reducible assumption) | (with_reducible refine Ext.drewN ?_ _) | (with_reducible refine Ext.drew ?_) | (with_reducible refine Ext.alloc ?_ _) | ((with_reducible refine Ext.setCell ?_ ?_ _); rotate_left; focus (first | (simp; done) | (simp; omega) | omega)) | (with_reducible refine Ext.trans ?_ (by with_reducible assumption)))) hy)
    go_ret
    exact ⟨rb HO.out.symm, hx1⟩
  rw [hv] at HV
  have hg := validB_good hv
  have HCell := Lib.hid HB.out
  obtain ⟨c0, _, _, _, _⟩ := HB.out
  have k0 : ∀ w', Ext (w.alloc (.cells #[.int .i64 base, .int .i64 modulus, .int .i64 target, .slice a n c] 34)) w' → w'.cell? ⟨w.heap.size, 0, none⟩ = some (.int .i64 base) := fun w' h => h.cell c0
  cases hk : kindB k base
  · rw [hk] at HK
    have HO := Lib.hid (show catB ⟨base, modulus, target, l⟩ k = false by rw [catB, hk]; simp)
    clear hv hk
    go_enter Try.func19, Try.ntmps19
    go_wp2_with (first | ((with_reducible refine (HV.out _ (by repeat (first | (with_reducible exact Ext.refl _) | (with_reducible assumption) | (with_reducible refine Ext.drewN ?_ _) | (with_reducible refine Ext.drew ?_) | (with_reducible refine Ext.alloc ?_ _) | ((with_reducible refine Ext.setCell ?_ ?_ _); rotate_left; focus (first | (simp; done) | (simp; omega) | omega)) | (with_reducible refine Ext.trans ?_ (by with_reducible assumption))))).mono ?_); rintro e w1 ⟨rfl, hy⟩; have hx1 : Ext w w1 := Ext.trans (by repeat (first | (with_reducible exact Ext.refl _) | (with_reducible assumption) | (with_reducible refine Ext.drewN ?_ _) | (with_reducible refine Ext.drew ?_) | (with_reducible refine Ext.alloc ?_ _) | ((with_reducible refine Ext.setCell ?_ ?_ _); rotate_left; focus (first | (simp; done) | (simp; omega) | omega)) | (with_reducible refine Ext.trans ?_ (by with_reducible assumption)))) hy; have hb1 : Ext (w.alloc (.cells #[.int .i64 base, .int .i64 modulus, .int .i64 target, .slice a n c] 34)) w1 := hy; clear hy) | ((with_reducible refine (HK.out _).mono ?_); rintro e w2 ⟨rfl, rfl⟩))
    go_ret
    exact ⟨rb HO.out.symm, hx1⟩
  rw [hk] at HK
  have hkk : 0 ≤ k ∧ k ≤ 5 := by unfold kindB at hk; simp only [Bool.and_eq_true] at hk; exact inB_t.1 hk.1
  have HO := Lib.hid (show catB ⟨base, modulus, target, l⟩ k = decide (allF ⟨base, modulus, target, l⟩ k = 0) by rw [catB, hv, hk]; rfl)
  have HU := Lib.hid (fun W' h => impl_unseenAll w.heap.size ⟨base, modulus, target, l⟩ a n c k W' h hg hkk)
  clear hv hk hg
  generalize allF ⟨base, modulus, target, l⟩ k = y at *
  go_enter Try.func19, Try.ntmps19
  go_wp2_with (first | ((with_reducible refine (HV.out _ (by repeat (first | (with_reducible exact Ext.refl _) | (with_reducible assumption) | (with_reducible refine Ext.drewN ?_ _) | (with_reducible refine Ext.drew ?_) | (with_reducible refine Ext.alloc ?_ _) | ((with_reducible refine Ext.setCell ?_ ?_ _); rotate_left; focus (first | (simp; done) | (simp; omega) | omega)) | (with_reducible refine Ext.trans ?_ (by with_reducible assumption))))).mono ?_); rintro e w1 ⟨rfl, hy⟩; have hx1 : Ext w w1 := Ext.trans (by repeat (first | (with_reducible exact Ext.refl _) | (with_reducible assumption) | (with_reducible refine Ext.drewN ?_ _) | (with_reducible refine Ext.drew ?_) | (with_reducible refine Ext.alloc ?_ _) | ((with_reducible refine Ext.setCell ?_ ?_ _); rotate_left; focus (first | (simp; done) | (simp; omega) | omega)) | (with_reducible refine Ext.trans ?_ (by with_reducible assumption)))) hy; have hb1 : Ext (w.alloc (.cells #[.int .i64 base, .int .i64 modulus, .int .i64 target, .slice a n c] 34)) w1 := hy; clear hy) | ((with_reducible refine (HK.out _).mono ?_); rintro e w2 ⟨rfl, rfl⟩) | ((with_reducible refine (HU.out _ (HCell.out.ext hb1)).mono ?_); rintro e w3 ⟨rfl, q, rfl⟩))
  go_ret
  exact ⟨rb (by rw [HO.out]; rfl), (by repeat (first | (with_reducible exact Ext.refl _) | (with_reducible assumption) | (with_reducible refine Ext.drewN ?_ _) | (with_reducible refine Ext.drew ?_) | (with_reducible refine Ext.alloc ?_ _) | ((with_reducible refine Ext.setCell ?_ ?_ _); rotate_left; focus (first | (simp; done) | (simp; omega) | omega)) | (with_reducible refine Ext.trans ?_ (by with_reducible assumption))))⟩
set_option maxHeartbeats 1000000 in
theorem spec_WC (W : Wt) (a : Option Addr) (n c : Nat) (k : Int) (w : World) (hw : Ints w a n c W.weights) (hk : kindB k W.base = true) :
    Calls Try.prog 21 #[.agg #[.int .i64 W.base, .int .i64 W.modulus, .int .i64 W.target, .slice a n c], .int .i64 k] w (Ret (.bool (catB W k)) w) := by
  obtain ⟨base, modulus, target, l⟩ := W
  simp only at hw hk ⊢
  have HB := Lib.hid (isWt_box w base modulus target l a n c 34 hw)
  have HV := Lib.hid (spec_is w.heap.size ⟨base, modulus, target, l⟩ a n c _ HB.out)
  clear hw
  cases hv : validB ⟨base, modulus, target, l⟩
  · rw [hv] at HV
    have HO := Lib.hid (show catB ⟨base, modulus, target, l⟩ k = false by rw [catB, hv]; rfl)
    clear hv
    go_enter Try.func21, Try.ntmps21
    go_wp2_with ((with_reducible refine HV.out.mono ?_); rintro e w1 ⟨rfl, q, rfl⟩)
    go_ret
    exact ⟨rb HO.out.symm, (by repeat (first | (with_reducible exact Ext.refl _) | (with_reducible assumption) | (with_reducible refine Ext.drewN ?_ _) | (with_reducible refine Ext.drew ?_) | (with_reducible refine Ext.alloc ?_ _) | ((with_reducible refine Ext.setCell ?_ ?_ _); rotate_left; focus (first | (simp; done) | (simp; omega) | omega)) | (with_reducible refine Ext.trans ?_ (by with_reducible assumption))))⟩
  rw [hv] at HV
  have hg := validB_good hv
  have HO := Lib.hid (show catB ⟨base, modulus, target, l⟩ k = decide (allF ⟨base, modulus, target, l⟩ k = 0) by rw [catB, hv, hk]; rfl)
  have HC := Lib.hid (fun W' h => spec_catches w.heap.size ⟨base, modulus, target, l⟩ a n c k W' h hg hk)
  clear hv hg
  generalize decide (allF ⟨base, modulus, target, l⟩ k = 0) = y at *
  go_enter Try.func21, Try.ntmps21
  go_wp2_with (first | ((with_reducible refine HV.out.mono ?_); rintro e w1 ⟨rfl, q, rfl⟩) | ((with_reducible refine (HC.out _ (HB.out.ext (by repeat (first | (with_reducible exact Ext.refl _) | (with_reducible assumption) | (with_reducible refine Ext.drewN ?_ _) | (with_reducible refine Ext.drew ?_) | (with_reducible refine Ext.alloc ?_ _) | ((with_reducible refine Ext.setCell ?_ ?_ _); rotate_left; focus (first | (simp; done) | (simp; omega) | omega)) | (with_reducible refine Ext.trans ?_ (by with_reducible assumption)))))).mono ?_); rintro e w3 ⟨rfl, rfl⟩))
  go_ret
  exact ⟨rb HO.out.symm, (by repeat (first | (with_reducible exact Ext.refl _) | (with_reducible assumption) | (with_reducible refine Ext.drewN ?_ _) | (with_reducible refine Ext.drew ?_) | (with_reducible refine Ext.alloc ?_ _) | ((with_reducible refine Ext.setCell ?_ ?_ _); rotate_left; focus (first | (simp; done) | (simp; omega) | omega)) | (with_reducible refine Ext.trans ?_ (by with_reducible assumption))))⟩
/-- the kinds that a law draws -/
def kD (l : List UInt8) : Nat → List Int
  | 0 => []
  | k + 1 => if b10 l ((k : Int) + 2) 3 = 0 then kD l k ++ [(k : Int)] else kD l k
theorem gi_snoc_lt {l : List Int} {x : Int} {i : Nat} (h : i < l.length) : gi (l ++ [x]) i = gi l i := by
  unfold gi; rw [List.getD_eq_getElem?_getD, List.getElem?_append_left h, List.getD_eq_getElem?_getD]
theorem gi_snoc_eq {l : List Int} {x : Int} : gi (l ++ [x]) l.length = x := by
  unfold gi; simp [List.getD_eq_getElem?_getD]
theorem kD_rise (l : List UInt8) : ∀ k, (kD l k).length ≤ k ∧ ∀ i, i < (kD l k).length → 0 ≤ gi (kD l k) i ∧ gi (kD l k) i < k ∧ (i = 0 ∨ gi (kD l k) (i - 1) < gi (kD l k) i)
  | 0 => ⟨Nat.le_refl _, fun i hi => by cases hi⟩
  | k + 1 => by
    obtain ⟨h1, h2⟩ := kD_rise l k
    rw [kD]
    split
    · refine ⟨by rw [List.length_append]; simp; omega, fun i hi => ?_⟩
      rw [List.length_append] at hi
      simp only [List.length_cons, List.length_nil] at hi
      by_cases e : i < (kD l k).length
      · have := h2 i e
        rw [gi_snoc_lt e, gi_snoc_lt (by omega)]
        omega
      · obtain rfl : i = (kD l k).length := by omega
        rw [gi_snoc_eq]
        refine ⟨by omega, by omega, ?_⟩
        rcases Nat.eq_zero_or_pos (kD l k).length with h | h
        · exact .inl h
        · right
          rw [gi_snoc_lt (by omega)]
          have := h2 ((kD l k).length - 1) (by omega)
          omega
    · exact ⟨by omega, fun i hi => by have := h2 i hi; omega⟩
theorem kD_kinds (l : List UInt8) (base : Int) : kindsB (kD l 5) base = true := by
  unfold kindsB
  rw [List.all_eq_true]
  intro i hi
  obtain ⟨h1, h2, h3⟩ := (kD_rise l 5).2 i (List.mem_range.1 hi)
  have hk : kindB (gi (kD l 5) i) base = true := by
    unfold kindB
    rw [inB_t.2 ⟨h1, by omega⟩, decide_eq_true (show gi (kD l 5) i ≠ 5 by omega)]; rfl
  rw [hk]
  rcases h3 with h | h
  · simp [h]
  · simp [h]
theorem least_spec {base : Int} {m np : Nat} {kinds L : List Int} (h : leastT base m np kinds = some L) : ∃ t, t < m ^ np ∧ L = tupAt m np t ∧ fineB ⟨base, m, 0, L⟩ kinds = true := by
  unfold leastT at h
  cases hf : (List.range (m ^ np)).find? fun t => fineB ⟨base, m, 0, tupAt m np t⟩ kinds with
  | none => rw [hf] at h; cases h
  | some t =>
    rw [hf] at h; cases h
    exact ⟨t, List.mem_range.1 (List.mem_of_find?_eq_some hf), rfl, List.find?_some (p := fun t => fineB ⟨base, m, 0, tupAt m np t⟩ kinds) hf⟩
theorem least_never {base : Int} {m np : Nat} {kinds L : List Int} (hm : 0 < m) (h : leastT base m np kinds = none) (hl : L.length = np) (hb : ∀ x ∈ L, 0 ≤ x ∧ x < m) : fineB ⟨base, m, 0, L⟩ kinds = false := by
  obtain ⟨t, ht, rfl⟩ := tupAt_all hm hl hb
  unfold leastT at h
  rw [Option.map_eq_none_iff, List.find?_eq_none] at h
  simpa using h t (List.mem_range.2 ht)
/-- the weights that a law draws -/
def wD (l : List UInt8) (m : Int) (n : Nat) : List Int := (List.range n).map fun (i : Nat) => b10 l ((i : Int) + 1) m
theorem wD_len (l : List UInt8) (m : Int) (n : Nat) : (wD l m n).length = n := by simp [wD]
theorem wD_bd {l : List UInt8} {m : Int} {n : Nat} (hm : 1 ≤ m) : ∀ x ∈ wD l m n, 0 ≤ x ∧ x < m := fun x hx => by
  obtain ⟨i, _, rfl⟩ := List.mem_map.1 hx
  exact b10_bd l _ m hm
theorem wD_step (l : List UInt8) (m : Int) {n k : Nat} (h : k < n) : (wD l m n).take (k + 1) = (wD l m n).take k ++ [b10 l ((k : Int) + 1) m] := by
  rw [take_gi (by rw [wD_len]; exact h)]
  congr 2
  simp [gi, wD, List.getD_eq_getElem?_getD, h]
theorem Ext.frozen {a w : World} (h : Ext a w) {p : Addr} (hp : p.block < a.heap.size) : w.frozen? p = a.frozen? p := Below.frozen h hp
/-- append within a region that draws its order -/
theorem step_append1 {P : Program} {W : World} {ops : Array Oper} {o : Oper} {a : Act} {K : Act → World → Prop} {Q : Exit → Act → World → Prop} {E : Prop}
    (hg : o.guard = none) (s x : Operand) (t : TypeId) (hop : o.op = Op.call { callee := Callee.builtin Builtin.append, args := #[s, x], argTypes := #[t, t] })
    (e : TypeId) (z : Value) (bytes : Nat) (h1 : P.underlying t = some (.slice e)) (h2 : (P.info? e).map (fun i => (i.zero, i.size, i.bytes)) = some (some z, 1, bytes)) (hz : z.cells.size = 1)
    (B : Nat) (ad : Option Addr) (n c : Nat) (vs : List Value) (u : Value) (b : Nat) (hs : a.eval s = .slice ad n c) (hx : a.eval x = .slice (some ⟨b, 0, none⟩) 1 1)
    (hcell : W.cell? ⟨b, 0, none⟩ = some u) (hown : Own W B e ad n c vs) (hu : u.oneCell' = true) (hB : B ≤ W.heap.size) (hn : n < 1099511627776) (hb : bytes ≤ 64)
    (hK : ∀ ad' c' w', Own w' B e ad' (n + 1) c' (vs ++ [u]) → Below B W w' → K (a.put o.dst (.slice ad' (n + 1) c')) w') :
    if Region.wanted o (yielded ops a.tmps) = true then Oper.wp P o a W K Q else E := by
  have hw : Region.wanted o (yielded ops a.tmps) = true := by simp [Region.wanted, hg]
  rw [if_pos hw]
  obtain ⟨i, hi, hz0, hz1, rfl⟩ := info_parts h2
  refine wp_append_own (P := P) W s x t hop B e i z 1 i.bytes h1 hi hz0 hz1 rfl hz (by omega) (.slice ad n c) n vs hs hown ⟨b, 0, none⟩ 1 1 [u] hx rfl
    (fun j v hj => by
      have : j = 0 := by have := (List.getElem?_eq_some_iff.1 hj).1; simp at this; omega
      subst this
      simp at hj; subst hj; exact hcell) (by simpa using hu) (by unfold maxLen; omega) (by have := Nat.mul_le_mul (show n + 1 ≤ 1099511627776 by omega) hb; omega) hB ?_
  intro v' w' h3 h4 _
  have hv : ∃ ad' c', v' = .slice ad' (n + 1) c' := by
    rcases h3.2 with ⟨_, h⟩ | ⟨g, cap, cur, hv, _⟩
    · omega
    · exact ⟨_, _, hv⟩
  obtain ⟨ad', c', rfl⟩ := hv
  exact hK ad' c' w' h3 (Below.grown (Below.refl B W) h4 hB (fun k hk => (World.ownsRow.lt hown k hk).1))

end Go.Proofs.Ytlpbflmgkopklaa
