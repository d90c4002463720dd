/- Walks: append of nothing; l00Own. -/
import Derived.Test.YtdekplfjnkbidaaVar
import Derived.Laws.OwnMore
namespace Go.Proofs.Ytdekplfjnkbidaa
set_option maxRecDepth 100000
open Go.RowKit

theorem run_append_none0 {P : Program} {w : World} (base : Nat) (t ty e : TypeId) (i : TypeInfo) (ht : P.underlying t = some (.slice e)) (hi : P.info? e = some i) (ad : Option Addr) (n c c' : Nat) (vs : List Value) (hown : Own w base e ad n c vs) :
    (Builtin.append_ #[t, t] ty #[.slice ad n c, .slice none 0 c']).run P w = .ok (.slice ad n c) w := by
  rcases hown.2 with ⟨h1, h2⟩ | ⟨g, cap, cur, h1, _, _, hnc, _⟩
  · simp only [Value.slice.injEq] at h1
    obtain ⟨rfl, rfl, rfl⟩ := h1
    simp [Builtin.append_, run_underlying ht, sizeOf, typeInfo, hi, Builtin.lenOf, Builtin.firstCells]
  · simp only [Value.slice.injEq, true_and] at h1
    obtain ⟨rfl, rfl⟩ := h1
    simp [Builtin.append_, run_underlying ht, sizeOf, typeInfo, hi, Builtin.lenOf, Builtin.firstCells, hnc, storeCells]
/-- append(s, x...) where x is nil -/
theorem law_append_none {P : Program} (w : World) {ops : Array Oper} {rest : List Oper} {o : Oper} {a : Act} {Q : Exit → Act → World → Prop}
    (hg : o.guard = none) (s x : Operand) (t : TypeId) (hop : o.op = Op.call { callee := Callee.builtin Builtin.append, args := #[s, x], argTypes := #[t, t] })
    (e : TypeId) (z : Value) (bytes : Nat) (h1 : P.underlying t = some (.slice e)) (h2 : (P.info? e).map (fun i => (i.zero, i.size, i.bytes)) = some (some z, 1, bytes))
    (B : Nat) (ad : Option Addr) (n c c' : Nat) (vs : List Value) (hs : a.eval s = .slice ad n c) (hx : a.eval x = .slice none 0 c') (hown : Own w B e ad n c vs)
    (hK : wpList P ops Q rest (a.put o.dst (.slice ad n c)) w) : wpList P ops Q (o :: rest) a w := by
  obtain ⟨i, hi, _, _, rfl⟩ := info_parts h2
  refine wpList_plain hg fun K hK' => ?_
  have hr := run_append_none0 (P := P) (w := w) B t o.type e i h1 hi ad n c c' vs hown
  unfold Oper.wp execOp
  simp only [hop, resolve, invoke, builtin, Sem.run_bind, Sem.run_pure, Result.andThen_ok, List.map_toArray, List.map_cons, List.map_nil, hs, hx, hr]
  exact hK' _ _ hK
set_option maxHeartbeats 400000 in
theorem spec_own (a : Option Addr) (n c : Nat) (l : List Int) (w : World) (hv : Ints w a n c l) (hn : n ≤ 4294967296) :
    Calls Try.prog 106 #[.slice a n c] w (RetOwn 2 (I l) w) := by
  have HL := Lib.hid hv.len
  have HV := Lib.hid hv
  cases a with
  | none =>
    have h0 : n = 0 := by
      rcases Nat.eq_zero_or_pos n with h | h
      · exact h
      · obtain ⟨b, off, ha, _⟩ := hv.cells h; cases ha
    subst h0
    have HN := Lib.hid (List.eq_nil_of_length_eq_zero HL.out)
    clear hv
    go_enter Try.func106, Try.ntmps106
    go_wp2_with (at_builtin; refine law_append_none _ rfl _ _ 23 rfl 2 (.int .i64 0) 8 und_int64s info_int64 w.heap.size _ 0 0 c [] rfl rfl (Own.lit0 w _) ?_)
    go_ret
    exact RetOwn.mk (by rw [HN.out]; exact Own.lit0 w _) HL.out ((Ext.refl w).alloc _)
  | some ad =>
    clear hv
    go_enter Try.func106, Try.ntmps106
    go_wp2_with (at_builtin; refine law_appends _ rfl _ _ 23 rfl 2 (.int .i64 0) 8 und_int64s info_int64 rfl w.heap.size _ 0 0 [] ad n c (I l) (oneI l) rfl rfl (Own.lit0 w _) (HV.out.ext ((Ext.refl w).alloc _)) (by simp) (by omega) (by omega) ?_; intro ad' c' w1 ho1 hb1 _ hnn)
    go_ret
    have hx : Ext w w1 := ((Ext.refl w).alloc _).below hb1
    rw [List.nil_append, Nat.zero_add] at ho1
    exact RetOwn.mk ho1 HL.out hx
end Go.Proofs.Ytdekplfjnkbidaa
