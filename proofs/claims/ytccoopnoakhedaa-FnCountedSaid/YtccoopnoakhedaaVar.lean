/- Words for captured variables: a block of one cell. -/
import Derived.Test.YtccoopnoakhedaaMix
namespace Go.Proofs.Ytccoopnoakhedaa
set_option maxRecDepth 100000
open Go.RowKit

/-- block q is a variable that holds v -/
def VarAt (w : World) (q : Nat) (T : TypeId) (v : Value) : Prop := w.heap[q]? = some (.cells #[v] T (0, 0))
section
variable {w w' : World} {q : Nat} {T : TypeId} {v : Value}
theorem VarAt.lt (h : VarAt w q T v) : q < w.heap.size := (Array.getElem?_eq_some_iff.1 h).1
theorem VarAt.cell (h : VarAt w q T v) : w.cell? ⟨q, 0, none⟩ = some v := cell_of_row w q 0 #[v] T (0, 0) h
theorem VarAt.frozen (h : VarAt w q T v) : w.frozen? ⟨q, 0, none⟩ = false := by unfold VarAt at h; simp [World.frozen?, h]
theorem VarAt.new (w : World) (T : TypeId) (v : Value) : VarAt (w.alloc (.cells #[v] T)) w.heap.size T v := heap_alloc_new w _
theorem VarAt.set (h : VarAt w q T v) (u : Value) : VarAt (w.setCell ⟨q, 0, none⟩ u) q T u := by
  unfold VarAt at h ⊢
  simp [World.setCell, Array.getElem?_modify, h]
theorem VarAt.other (h : VarAt w q T v) {p : Addr} (u : Value) (hp : q ≠ p.block) : VarAt (w.setCell p u) q T v := (Below.heap_setCell w p u q hp).trans h
theorem VarAt.ext (h : VarAt w q T v) (hx : Ext w w') : VarAt w' q T v := hx.heap h
theorem VarAt.grown (h : VarAt w q T v) {row : Option Nat} (hg : w.grownBy w' row) (hr : some q ≠ row) : VarAt w' q T v := (hg.block q h.lt hr).trans h
theorem VarAt.ne {q' : Nat} {T' : TypeId} {v' : Value} (h : VarAt w q T v) (h' : VarAt w q' T' v') (hT : T ≠ T') : q ≠ q' := by
  rintro rfl
  unfold VarAt at h h'
  rw [h] at h'
  injection h' with h'
  injection h' with _ h2
  exact hT h2
theorem Own.ne_var {B : Nat} {E : TypeId} {a : Option Addr} {n c : Nat} {vs : List Value} (ho : Own w B E a n c vs) (h : VarAt w q T v) (hT : E ≠ T) : ∀ g, a = some g → g.block ≠ q := by
  rintro g rfl rfl
  rcases ho.2 with h2 | ⟨g', cap, cur, hv, _, hg, _⟩
  · obtain ⟨h2, _⟩ := h2; cases h2
  · simp only [Value.slice.injEq, Option.some.injEq, true_and] at hv
    obtain ⟨rfl, _⟩ := hv
    unfold VarAt at h
    rw [hg] at h
    injection h with h
    injection h with _ h3
    exact hT h3
theorem row_ne {a : Option Addr} {n c q : Nat} (h : ∀ g, a = some g → g.block ≠ q) : some q ≠ (Value.slice a n c).ownBlock := by
  cases a with
  | none => simp [Value.ownBlock]
  | some g => simp [Value.ownBlock]; intro he; exact h g rfl he.symm
end

/-- append(s, src...): the values of a slice to a row of the call's own -/
theorem law_appends {P : Program} (w : World) {ops : Array Oper} {rest : List Oper} {o : Oper} {a : Act} {Q : Exit → Act → World → Prop}
    (hg : o.guard = none) (s x : Operand) (t : TypeId) (hop : o.op = Op.call { callee := Callee.builtin Builtin.append, args := #[s, x], argTypes := #[t, t] })
    (e : TypeId) (z : Value) (bytes : Nat) (h1 : P.underlying t = some (.slice e)) (h2 : (P.info? e).map (fun i => (i.zero, i.size, i.bytes)) = some (some z, 1, bytes)) (hz : z.cells.size = 1)
    (B : Nat) (ad : Option Addr) (n c : Nat) (vs : List Value) (src : Addr) (m c' : Nat) (us : List Value) (hu : ∀ u ∈ us, u.oneCell' = true) (hs : a.eval s = .slice ad n c) (hx : a.eval x = .slice (some src) m c')
    (hown : Own w B e ad n c vs) (hsl : Sl w (some src) m c' us) (hB : B ≤ w.heap.size) (hn : n + m < 1099511627776) (hb : bytes ≤ 64)
    (hK : ∀ ad' cc' w', Own w' B e ad' (n + m) cc' (vs ++ us) → Below B w w' → w.grownBy w' (Value.slice ad n c).ownBlock → (ad' = none → ad = none) → wpList P ops Q rest (a.put o.dst (.slice ad' (n + m) cc')) w') :
    wpList P ops Q (o :: rest) a w := by
  obtain ⟨i, hi, hz0, hz1, rfl⟩ := info_parts h2
  refine wpList_append_own (P := P) w hg s x t hop B e i z 1 i.bytes h1 hi hz0 hz1 rfl hz (by omega) (.slice ad n c) n vs hs hown src m c' us hx (by rw [hsl.len, Nat.mul_one])
    (fun j u hj => ?_) hu (by unfold maxLen; omega) (by have := Nat.mul_le_mul (show n + m ≤ 1099511627776 by omega) hb; omega) hB ?_
  · have hj' : j < m := by rw [← hsl.len]; exact (List.getElem?_eq_some_iff.1 hj).1
    obtain ⟨b, off, ha, hc⟩ := hsl.cells (by omega)
    simp only [Option.some.injEq] at ha
    subst ha
    rw [Addr.add_lit, hc j hj', List.getD_eq_getElem?_getD, hj]; rfl
  · intro v' w' h3 h4 h5
    have hv : ∃ ad' c', v' = .slice ad' (n + m) c' := by
      rcases h3.2 with ⟨h, h'⟩ | ⟨g, cap, cur, hv, _⟩
      · exact ⟨none, 0, by rw [h, h']⟩
      · exact ⟨_, _, hv⟩
    obtain ⟨ad', c', rfl⟩ := hv
    refine hK ad' c' w' h3 (Below.grown (Below.refl B w) h4 hB (fun k hk => (World.ownsRow.lt hown k hk).1)) h4 ?_
    rintro rfl
    have hz : n + m = 0 ∧ c' = 0 := by
      rcases h3.2 with ⟨h, h'⟩ | ⟨g, cap, cur, hv, _⟩
      · simp at h; omega
      · simp at hv
    obtain ⟨hz, rfl⟩ := hz
    have := (h5.1 (by rw [hz])).1
    simp at this
    exact this.1

theorem oneI (l : List Int) : ∀ u ∈ I l, u.oneCell' = true := fun u hu => by
  obtain ⟨x, _, rfl⟩ := List.mem_map.1 hu; rfl

/-- a fresh slice that is nil only if the elder one is -/
def RetClone (a0 : Option Addr) (vs : List Value) (w : World) (e : Ending) (w' : World) : Prop :=
  ∃ a c, e = .returned (.slice a vs.length c) ∧ Own w' w.heap.size 2 a vs.length c vs ∧ Ext w w' ∧ (a = none ↔ a0 = none)
set_option maxHeartbeats 400000 in
theorem clone_ints (a : Option Addr) (n c : Nat) (l : List Int) (w : World) (hv : Ints w a n c l) (hn : n ≤ 4294967296) :
    Calls Try.prog 56 #[.slice a n c] w (RetClone a (I l) w) := by
  have qT : ∀ (w : World) a n c, (binOp .eql 25 (.slice a n c) (.slice none 0 0)).run Try.prog w = .ok (.bool a.isNone) w := fun w a n c => Lib.run_eql_slice_nil w 25 2 a n c 0 0 und_int64s
  have HL := Lib.hid hv.len
  cases a with
  | none =>
    have h0 : n = 0 := by
      rcases Nat.eq_zero_or_pos n with h | h
      · exact h
      · obtain ⟨b, off, ha, _⟩ := hv.cells h; cases ha
    subst h0
    have HN := Lib.hid (List.eq_nil_of_length_eq_zero HL.out)
    clear hv
    go_enter Try.func56, Try.ntmps56
    go_wp2
    go_ret
    exact ⟨none, 0, by rw [HN.out]; rfl, by rw [HN.out]; exact Own.nil _ _ _, Ext.refl _, by simp⟩
  | some ad =>
    have HV := Lib.hid hv
    clear hv
    go_enter Try.func56, Try.ntmps56
    go_wp2_with (at_builtin; refine law_appends _ rfl _ _ 25 rfl 2 (.int .i64 0) 8 und_int64s info_int64 rfl w.heap.size _ 0 0 [] ad n c (I l) (oneI l) rfl rfl (Own.lit0 w _) (HV.out.ext ((Ext.refl w).alloc _)) (by simp) (by omega) (by omega) ?_; intro ad' c' w1 ho1 hb1 _ hnn)
    go_ret
    have hx : Ext w w1 := ((Ext.refl w).alloc _).below hb1
    rw [List.nil_append, Nat.zero_add] at ho1
    refine ⟨ad', c', by rw [I_len, HL.out]; rfl, by rw [I_len, HL.out]; exact ho1, hx, ?_⟩
    constructor
    · intro h; have := hnn h; cases this
    · intro h; cases h
end Go.Proofs.Ytccoopnoakhedaa
