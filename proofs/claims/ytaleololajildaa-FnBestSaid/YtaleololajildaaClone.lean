/- Walks: slices.Clone of numbers; the search of best weights: what can be searched. -/
import Derived.Test.YtaleololajildaaPow
import Derived.Test.YtaleololajildaaTuples
namespace Go.Proofs.Ytaleololajildaa
open Go.RowKit

/-- append(s, src...): the values of a slice to a row of the call's own -/
theorem law_appends {P : Program} (w : World) {ops : Array Oper} {rest : List Oper} {o : Oper} {a : Act} {Q : Exit → Act → World → Prop}
    (hg : o.guard = none) (s x : Operand) (t : TypeId) (hop : o.op = Op.call { callee := Callee.builtin Builtin.append, args := #[s, x], argTypes := #[t, t] })
    (e : TypeId) (z : Value) (bytes : Nat) (h1 : P.underlying t = some (.slice e)) (h2 : (P.info? e).map (fun i => (i.zero, i.size, i.bytes)) = some (some z, 1, bytes)) (hz : z.cells.size = 1)
    (B : Nat) (ad : Option Addr) (n c : Nat) (vs : List Value) (src : Addr) (m c' : Nat) (us : List Value) (hu : ∀ u ∈ us, u.oneCell' = true) (hs : a.eval s = .slice ad n c) (hx : a.eval x = .slice (some src) m c')
    (hown : Own w B e ad n c vs) (hsl : Sl w (some src) m c' us) (hB : B ≤ w.heap.size) (hn : n + m < 1099511627776) (hb : bytes ≤ 64)
    (hK : ∀ ad' cc' w', Own w' B e ad' (n + m) cc' (vs ++ us) → Below B w w' → w.grownBy w' (Value.slice ad n c).ownBlock → (ad' = none → ad = none) → wpList P ops Q rest (a.put o.dst (.slice ad' (n + m) cc')) w') :
    wpList P ops Q (o :: rest) a w := by
  obtain ⟨i, hi, hz0, hz1, rfl⟩ := info_parts h2
  refine wpList_append_own (P := P) w hg s x t hop B e i z 1 i.bytes h1 hi hz0 hz1 rfl hz (by omega) (.slice ad n c) n vs hs hown src m c' us hx (by rw [hsl.len, Nat.mul_one])
    (fun j u hj => ?_) hu (by unfold maxLen; omega) (by have := Nat.mul_le_mul (show n + m ≤ 1099511627776 by omega) hb; omega) hB ?_
  · have hj' : j < m := by rw [← hsl.len]; exact (List.getElem?_eq_some_iff.1 hj).1
    obtain ⟨b, off, ha, hc⟩ := hsl.cells (by omega)
    simp only [Option.some.injEq] at ha
    subst ha
    rw [Addr.add_lit, hc j hj', List.getD_eq_getElem?_getD, hj]; rfl
  · intro v' w' h3 h4 h5
    have hv : ∃ ad' c', v' = .slice ad' (n + m) c' := by
      rcases h3.2 with ⟨h, h'⟩ | ⟨g, cap, cur, hv, _⟩
      · exact ⟨none, 0, by rw [h, h']⟩
      · exact ⟨_, _, hv⟩
    obtain ⟨ad', c', rfl⟩ := hv
    refine hK ad' c' w' h3 (Below.grown (Below.refl B w) h4 hB (fun k hk => (World.ownsRow.lt hown k hk).1)) h4 ?_
    rintro rfl
    have hz : n + m = 0 ∧ c' = 0 := by
      rcases h3.2 with ⟨h, h'⟩ | ⟨g, cap, cur, hv, _⟩
      · simp at h; omega
      · simp at hv
    obtain ⟨hz, rfl⟩ := hz
    have := (h5.1 (by rw [hz])).1
    simp at this
    exact this.1

theorem oneI (l : List Int) : ∀ u ∈ I l, u.oneCell' = true := fun u hu => by
  obtain ⟨x, _, rfl⟩ := List.mem_map.1 hu; rfl

/-- a fresh slice that is nil only if the elder one is -/
def RetClone (a0 : Option Addr) (vs : List Value) (w : World) (e : Ending) (w' : World) : Prop :=
  ∃ a c, e = .returned (.slice a vs.length c) ∧ Own w' w.heap.size 2 a vs.length c vs ∧ Ext w w' ∧ (a = none ↔ a0 = none)
set_option maxHeartbeats 400000 in
theorem clone_ints (a : Option Addr) (n c : Nat) (l : List Int) (w : World) (hv : Ints w a n c l) (hn : n ≤ 4294967296) :
    Calls Try.prog 63 #[.slice a n c] w (RetClone a (I l) w) := by
  have qT : ∀ (w : World) a n c, (binOp .eql 22 (.slice a n c) (.slice none 0 0)).run Try.prog w = .ok (.bool a.isNone) w := fun w a n c => Lib.run_eql_slice_nil w 22 2 a n c 0 0 und_int64s
  have HL := Lib.hid hv.len
  cases a with
  | none =>
    have h0 : n = 0 := by
      rcases Nat.eq_zero_or_pos n with h | h
      · exact h
      · obtain ⟨b, off, ha, _⟩ := hv.cells h; cases ha
    subst h0
    have HN := Lib.hid (List.eq_nil_of_length_eq_zero HL.out)
    clear hv
    go_enter Try.func63, Try.ntmps63
    go_wp2
    go_ret
    exact ⟨none, 0, by rw [HN.out]; rfl, by rw [HN.out]; exact Own.nil _ _ _, Ext.refl _, by simp⟩
  | some ad =>
    have HV := Lib.hid hv
    clear hv
    go_enter Try.func63, Try.ntmps63
    go_wp2_with (at_builtin; refine law_appends _ rfl _ _ 22 rfl 2 (.int .i64 0) 8 und_int64s info_int64 rfl w.heap.size _ 0 0 [] ad n c (I l) (oneI l) rfl rfl (Own.lit0 w _) (HV.out.ext ((Ext.refl w).alloc _)) (by simp) (by omega) (by omega) ?_; intro ad' c' w1 ho1 hb1 _ hnn)
    go_ret
    have hx : Ext w w1 := ((Ext.refl w).alloc _).below hb1
    rw [List.nil_append, Nat.zero_add] at ho1
    refine ⟨ad', c', by rw [I_len, HL.out]; rfl, by rw [I_len, HL.out]; exact ho1, hx, ?_⟩
    constructor
    · intro h; have := hnn h; cases this
    · intro h; cases h

def searchB (base modulus places : Int) : Bool := inB places 1 20 && inB modulus 2 36 && baseB base && decide (base ^ places.toNat ≤ 1000000000000000) && decide (modulus ^ places.toNat ≤ 20000)

set_option maxHeartbeats 1000000 in
theorem impl_searchOk (base modulus places : Int) (w : World) : Calls Try.prog 60 #[.int .i64 base, .int .i64 modulus, .int .i64 places] w (Same (.bool (searchB base modulus places)) w) := by
  have HP := Lib.hid (impl_in places 1 20)
  have HM := Lib.hid (impl_in modulus 2 36)
  have HB := Lib.hid (impl_base base)
  cases hp : inB places 1 20
  · rw [hp] at HP
    have HV := Lib.hid (show searchB base modulus places = false by simp [searchB, hp])
    clear hp
    go_enter Try.func60, Try.ntmps60
    go_wp2_with ((with_reducible refine (HP.out _).mono ?_); rintro e w' ⟨rfl, rfl⟩)
    go_ret
    exact ⟨rb HV.out.symm, rfl⟩
  rw [hp] at HP
  cases hm : inB modulus 2 36
  · rw [hm] at HM
    have HV := Lib.hid (show searchB base modulus places = false by simp [searchB, hm])
    clear hp hm
    go_enter Try.func60, Try.ntmps60
    go_wp2_with (first | ((with_reducible refine (HP.out _).mono ?_); rintro e w' ⟨rfl, rfl⟩) | ((with_reducible refine (HM.out _).mono ?_); rintro e w' ⟨rfl, rfl⟩))
    go_ret
    exact ⟨rb HV.out.symm, rfl⟩
  rw [hm] at HM
  cases hb : baseB base
  · rw [hb] at HB
    have HV := Lib.hid (show searchB base modulus places = false by simp [searchB, hb])
    clear hp hm hb
    go_enter Try.func60, Try.ntmps60
    go_wp2_with (first | ((with_reducible refine (HP.out _).mono ?_); rintro e w' ⟨rfl, rfl⟩) | ((with_reducible refine (HM.out _).mono ?_); rintro e w' ⟨rfl, rfl⟩) | (go_at_call 55; refine (HB.out _).mono ?_; rintro e w' ⟨rfl, rfl⟩))
    go_ret
    exact ⟨rb HV.out.symm, rfl⟩
  rw [hb] at HB
  obtain ⟨p1, p2⟩ := inB_t.1 hp
  obtain ⟨m1, m2⟩ := inB_t.1 hm
  obtain ⟨b1, b2⟩ := baseB_t hb
  obtain ⟨n, rfl⟩ := Int.eq_ofNat_of_zero_le (show 0 ≤ places by omega)
  have HA := Lib.hid (impl_power base 1000000000000000 n w b1 (by omega) (by omega) (by omega) (by omega))
  have HC := Lib.hid (impl_power modulus 20000 n w m1 (by omega) (by omega) (by omega) (by omega))
  cases ha : decide (base ^ n ≤ 1000000000000000)
  · rw [ha] at HA
    have HV := Lib.hid (show searchB base modulus n = false by simp only [searchB, Int.toNat_natCast]; rw [ha]; simp)
    clear hp hm hb ha HC
    go_enter Try.func60, Try.ntmps60
    go_wp2_with (first | ((with_reducible refine (HP.out _).mono ?_); rintro e w' ⟨rfl, rfl⟩) | ((with_reducible refine (HM.out _).mono ?_); rintro e w' ⟨rfl, rfl⟩) | (go_at_call 55; refine (HB.out _).mono ?_; rintro e w' ⟨rfl, rfl⟩) | ((with_reducible refine HA.out.mono ?_); rintro e w' ⟨rfl, rfl⟩))
    go_ret
    exact ⟨rb HV.out.symm, rfl⟩
  · rw [ha] at HA
    have HV := Lib.hid (show searchB base modulus n = decide (modulus ^ n ≤ 20000) by simp only [searchB, Int.toNat_natCast]; rw [ha, hp, hm, hb]; simp)
    clear hp hm hb ha
    go_enter Try.func60, Try.ntmps60
    go_wp2_with (first | ((with_reducible refine (HP.out _).mono ?_); rintro e w' ⟨rfl, rfl⟩) | ((with_reducible refine (HM.out _).mono ?_); rintro e w' ⟨rfl, rfl⟩) | (go_at_call 55; refine (HB.out _).mono ?_; rintro e w' ⟨rfl, rfl⟩) | ((with_reducible refine HA.out.mono ?_); rintro e w' ⟨rfl, rfl⟩) | ((with_reducible refine HC.out.mono ?_); rintro e w' ⟨rfl, rfl⟩))
    go_ret
    exact ⟨rb HV.out.symm, rfl⟩
end Go.Proofs.Ytaleololajildaa
