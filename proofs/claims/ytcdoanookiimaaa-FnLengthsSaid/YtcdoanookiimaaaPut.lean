/- Walks: a text put into a list in ascending order (the reference). -/
import Derived.Test.YtcdoanookiimaaaPutM
import Derived.Test.YtcdoanookiimaaaSAt
namespace Go.Proofs.Ytcdoanookiimaaa
set_option maxRecDepth 100000
open Go.RowKit

theorem oneTs (l : List ByteArray) : ∀ u ∈ St l, u.oneCell' = true := fun u hu => by
  obtain ⟨x, _, rfl⟩ := List.mem_map.1 hu; rfl
/-- append(s, src...), src nil or not -/
theorem law_appendsO {P : Program} (w : World) {ops : Array Oper} {rest : List Oper} {o : Oper} {a : Act} {Q : Exit → Act → World → Prop}
    (hg : o.guard = none) (s x : Operand) (t : TypeId) (hop : o.op = Op.call { callee := Callee.builtin Builtin.append, args := #[s, x], argTypes := #[t, t] })
    (e : TypeId) (z : Value) (bytes : Nat) (h1 : P.underlying t = some (.slice e)) (h2 : (P.info? e).map (fun i => (i.zero, i.size, i.bytes)) = some (some z, 1, bytes)) (hz : z.cells.size = 1)
    (B : Nat) (ad : Option Addr) (n c : Nat) (vs : List Value) (src : Option Addr) (m c' : Nat) (us : List Value) (hu : ∀ u ∈ us, u.oneCell' = true) (hs : a.eval s = .slice ad n c) (hx : a.eval x = .slice src m c')
    (hown : Own w B e ad n c vs) (hsl : Sl w src m c' us) (hB : B ≤ w.heap.size) (hn : n + m < 1099511627776) (hb : bytes ≤ 64)
    (hK : ∀ ad' cc' w', Own w' B e ad' (n + m) cc' (vs ++ us) → Below B w w' → w.grownBy w' (Value.slice ad n c).ownBlock → wpList P ops Q rest (a.put o.dst (.slice ad' (n + m) cc')) w') :
    wpList P ops Q (o :: rest) a w := by
  cases src with
  | none =>
    have h0 : m = 0 := by
      rcases Nat.eq_zero_or_pos m with h | h
      · exact h
      · obtain ⟨b, off, ha, _⟩ := hsl.cells h; cases ha
    subst h0
    have hul : us = [] := List.eq_nil_of_length_eq_zero hsl.len
    subst hul
    exact law_append_none w hg s x t hop e z bytes h1 h2 B ad n c c' vs hs hx hown (hK ad c w (by rw [List.append_nil]; exact hown) (Below.refl _ _) ⟨rfl, rfl, rfl, Nat.le_refl _, fun _ _ _ => rfl⟩)
  | some ad0 => exact law_appends w hg s x t hop e z bytes h1 h2 hz B ad n c vs ad0 m c' us hu hs hx hown hsl hB hn hb fun ad' cc' w' g1 g2 g3 _ => hK ad' cc' w' g1 g2 g3
/-- a slice of texts -/
def RetTs (l : List ByteArray) (w : World) (e : Ending) (w' : World) : Prop := ∃ a c, e = .returned (.slice a l.length c) ∧ Strs w' a l.length c l ∧ Ext w w'
theorem RetTs.mk {l : List ByteArray} {w w' : World} {a : Option Addr} {n c : Nat} (hs : Strs w' a n c l) (hx : Ext w w') : RetTs l w (.returned (.slice a n c)) w' := by
  have := hs.len; subst this; exact ⟨a, c, rfl, hs, hx⟩
set_option maxHeartbeats 4000000 in
theorem spec_putTs (a : Option Addr) (n c : Nat) (l : List ByteArray) (t : ByteArray) (w : World) (hv : Strs w a n c l) (hn : n ≤ 1048576) :
    Calls Try.prog 89 #[.slice a n c, .string t] w (RetTs (putS l t) w) := by
  have HV := Lib.hid hv
  have HL := Lib.hid hv.len
  have HPut := Lib.hid (fun k (h1 : k ≤ n) (h2 : ∀ j, j < k → lessS (gs l j) t = true) (h3 : k < n → lessS (gs l k) t = false) => putS_at (l := l) (t := t) (k := k) (by rw [hv.len]; exact h1) h2 (by rw [hv.len]; exact h3))
  rw [HL.out] at HPut
  obtain ⟨y, hy⟩ : ∃ y, y = putS l t := ⟨_, rfl⟩
  rw [← hy] at HPut ⊢
  obtain ⟨b, off, hix, hcell⟩ := hv.ix (P := Try.prog) 28 9 und_strs cell_str
  clear hv hy
  have hxw : Ext w w := Ext.refl w
  go_enter Try.func89, Try.ntmps89
  go_wp2
  go_loop [5] (fun i => ∃ k : Nat, k ≤ n ∧ i = .int .i64 k ∧ ∀ j, j < k → lessS (gs l j) t = true) (fun i => n - (intOf i).toNat)
  case atStart => exact ⟨0, Nat.zero_le _, rfl, fun j hj => by omega⟩
  case round =>
    obtain ⟨k, hk, rfl, hp⟩ := hrel
    have Hhp := Lib.hid hp; clear hp
    by_cases hlt : k < n
    · cases hls : Op.bytesLess (gs l k).toList t.toList
      · by_cases heq : gs l k = t
        · have HX := Lib.hid ((HPut.out k hk Hhp.out (fun _ => hls)).trans (if_pos ⟨hlt, heq⟩))
          have he : ((gs l k).toList == t.toList) = true := by rw [heq]; simp
          clear heq
          go_wp2
          go_ret
          rw [HX.out]
          exact RetTs.mk HV.out hxw
        · have HX := Lib.hid ((HPut.out k hk Hhp.out (fun _ => hls)).trans (if_neg (fun h => heq h.2)))
          have he : ((gs l k).toList == t.toList) = false := by
            rw [Bool.eq_false_iff]; intro h; exact heq (bs_iff.1 h)
          clear heq
          obtain ⟨a1, hs1, hp1⟩ := HV.out.pre (P := Try.prog) 28 9 und_strs cell_str elem_strs k hk
          obtain ⟨a2, hs2, hp2⟩ := HV.out.suf (P := Try.prog) 28 9 und_strs cell_str elem_strs k hk
          have Hhp1 := Lib.hid hp1; clear hp1; have Hhp2 := Lib.hid hp2; clear hp2
          go_wp2_with (first
            | (at_builtin; refine law_appendsO _ rfl _ _ 28 rfl 9 (.string .empty) 16 und_strs info_str rfl w.heap.size _ 0 0 [] a1 k c (St (l.take k)) (oneTs _) rfl rfl (Own.lit0 w _) (Strs.ext Hhp1.out (by repeat (first | (with_reducible exact Ext.refl _) | (with_reducible assumption) | (with_reducible refine Ext.drewN ?_ _) | (with_reducible refine Ext.drew ?_) | (with_reducible refine Ext.alloc ?_ _) | ((with_reducible refine Ext.setCell ?_ ?_ _); rotate_left; focus (first | (simp; done) | (simp; omega) | omega)) | (with_reducible refine Ext.trans ?_ (by with_reducible assumption))))) (by simp) (by omega) (by omega) ?_; intro ad1 cc1 w1 ho1 hb1 hg1; rw [List.nil_append, Nat.zero_add] at ho1; have hxw1 : Ext w w1 := Ext.below (show Ext w _ from (by repeat (first | (with_reducible exact Ext.refl _) | (with_reducible assumption) | (with_reducible refine Ext.drewN ?_ _) | (with_reducible refine Ext.drew ?_) | (with_reducible refine Ext.alloc ?_ _) | ((with_reducible refine Ext.setCell ?_ ?_ _); rotate_left; focus (first | (simp; done) | (simp; omega) | omega)) | (with_reducible refine Ext.trans ?_ (by with_reducible assumption))))) hb1; have HO1 := Lib.hid ho1; clear ho1 hg1; rw [Nat.zero_add])
            | (at_builtin; refine law_append1 _ rfl _ _ 28 rfl 9 (.string .empty) 16 und_strs info_str rfl w.heap.size ad1 k cc1 (St (l.take k)) (.string t) rfl rfl rfl HO1.out hxw1.le (by omega) (by omega) ?_; intro ad2 cc2 w2 ho2 hb2 hg2; have hxw2 : Ext w w2 := Ext.below hxw1 hb2; have HO2 := Lib.hid ho2; clear ho2 hg2)
            | (at_builtin; refine law_appendsO _ rfl _ _ 28 rfl 9 (.string .empty) 16 und_strs info_str rfl w.heap.size ad2 (k + 1) cc2 (St (l.take k) ++ [.string t]) a2 (n - k) (c - k) (St (l.drop k)) (oneTs _) rfl rfl HO2.out (Strs.ext Hhp2.out (by repeat (first | (with_reducible exact Ext.refl _) | (with_reducible assumption) | (with_reducible refine Ext.drewN ?_ _) | (with_reducible refine Ext.drew ?_) | (with_reducible refine Ext.alloc ?_ _) | ((with_reducible refine Ext.setCell ?_ ?_ _); rotate_left; focus (first | (simp; done) | (simp; omega) | omega)) | (with_reducible refine Ext.trans ?_ (by with_reducible assumption))))) hxw2.le (by omega) (by omega) ?_; intro ad3 cc3 w3 ho3 hb3 hg3; have hxw3 : Ext w w3 := Ext.below hxw2 hb3; have HO3 := Lib.hid ho3; clear ho3 hg3))
          go_ret
          rw [HX.out]
          exact RetTs.mk (n := k + 1 + (n - k)) (by have h := HO3.out.sl; rw [show St (l.take k) ++ [Value.string t] ++ St (l.drop k) = St (l.take k ++ t :: l.drop k) by simp [St]] at h; exact h) hxw3
      · have HX := Lib.hid (show ∀ j, j < k + 1 → lessS (gs l j) t = true from fun j hj => by
          by_cases e : j < k
          · exact Hhp.out j e
          · obtain rfl : j = k := by omega
            exact hls)
        go_wp2
        exact ⟨⟨k + 1, by omega, by go_num, HX.out⟩, by simp [intOf]; omega⟩
    · obtain rfl : k = n := by omega
      have HX := Lib.hid ((HPut.out k hk Hhp.out (fun h => by omega)).trans (if_neg (fun h => by omega)))
      obtain ⟨a1, hs1, hp1⟩ := HV.out.pre (P := Try.prog) 28 9 und_strs cell_str elem_strs k hk
      obtain ⟨a2, hs2, hp2⟩ := HV.out.suf (P := Try.prog) 28 9 und_strs cell_str elem_strs k hk
      simp only [Nat.sub_self] at hs2
      rw [Nat.sub_self] at hp2
      have Hhp1 := Lib.hid hp1; clear hp1; have Hhp2 := Lib.hid hp2; clear hp2
      go_wp2_with (first
        | (at_builtin; refine law_appendsO _ rfl _ _ 28 rfl 9 (.string .empty) 16 und_strs info_str rfl w.heap.size _ 0 0 [] a1 k c (St (l.take k)) (oneTs _) rfl rfl (Own.lit0 w _) (Strs.ext Hhp1.out (by repeat (first | (with_reducible exact Ext.refl _) | (with_reducible assumption) | (with_reducible refine Ext.drewN ?_ _) | (with_reducible refine Ext.drew ?_) | (with_reducible refine Ext.alloc ?_ _) | ((with_reducible refine Ext.setCell ?_ ?_ _); rotate_left; focus (first | (simp; done) | (simp; omega) | omega)) | (with_reducible refine Ext.trans ?_ (by with_reducible assumption))))) (by simp) (by omega) (by omega) ?_; intro ad1 cc1 w1 ho1 hb1 hg1; rw [List.nil_append, Nat.zero_add] at ho1; have hxw1 : Ext w w1 := Ext.below (show Ext w _ from (by repeat (first | (with_reducible exact Ext.refl _) | (with_reducible assumption) | (with_reducible refine Ext.drewN ?_ _) | (with_reducible refine Ext.drew ?_) | (with_reducible refine Ext.alloc ?_ _) | ((with_reducible refine Ext.setCell ?_ ?_ _); rotate_left; focus (first | (simp; done) | (simp; omega) | omega)) | (with_reducible refine Ext.trans ?_ (by with_reducible assumption))))) hb1; have HO1 := Lib.hid ho1; clear ho1 hg1; rw [Nat.zero_add])
        | (at_builtin; refine law_append1 _ rfl _ _ 28 rfl 9 (.string .empty) 16 und_strs info_str rfl w.heap.size ad1 k cc1 (St (l.take k)) (.string t) rfl rfl rfl HO1.out hxw1.le (by omega) (by omega) ?_; intro ad2 cc2 w2 ho2 hb2 hg2; have hxw2 : Ext w w2 := Ext.below hxw1 hb2; have HO2 := Lib.hid ho2; clear ho2 hg2)
        | (at_builtin; refine law_appendsO _ rfl _ _ 28 rfl 9 (.string .empty) 16 und_strs info_str rfl w.heap.size ad2 (k + 1) cc2 (St (l.take k) ++ [.string t]) a2 0 (c - k) (St (l.drop k)) (oneTs _) rfl rfl HO2.out (Strs.ext Hhp2.out (by repeat (first | (with_reducible exact Ext.refl _) | (with_reducible assumption) | (with_reducible refine Ext.drewN ?_ _) | (with_reducible refine Ext.drew ?_) | (with_reducible refine Ext.alloc ?_ _) | ((with_reducible refine Ext.setCell ?_ ?_ _); rotate_left; focus (first | (simp; done) | (simp; omega) | omega)) | (with_reducible refine Ext.trans ?_ (by with_reducible assumption))))) hxw2.le (by omega) (by omega) ?_; intro ad3 cc3 w3 ho3 hb3 hg3; have hxw3 : Ext w w3 := Ext.below hxw2 hb3; have HO3 := Lib.hid ho3; clear ho3 hg3))
      go_ret
      rw [HX.out]
      exact RetTs.mk (n := k + 1 + 0) (by have h := HO3.out.sl; rw [show St (l.take k) ++ [Value.string t] ++ St (l.drop k) = St (l.take k ++ t :: l.drop k) by simp [St]] at h; exact h) hxw3
end Go.Proofs.Ytcdoanookiimaaa
