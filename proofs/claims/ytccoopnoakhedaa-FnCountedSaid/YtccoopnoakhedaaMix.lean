/- A region that draws its order, whose operations give the same values in every world that goes on from its start, beside calls that come one after another: one walk of the text's order serves every order. Conditions: none; nothing here speaks of a program's text. -/
import Derived.Test.YtccoopnoakhedaaK
import Derived.StillTail
namespace Go.Proofs.Ytccoopnoakhedaa
set_option maxRecDepth 100000
open Go.RowKit

/-! ### worlds that go on from one -/
open Classical in
noncomputable def _root_.Go.World.up (w x : World) : World := if Ext w x then x else w
theorem up_ext (w x : World) : Ext w (w.up x) := by unfold World.up; split; assumption; exact Ext.refl _
theorem up_eq {w x : World} (h : Ext w x) : w.up x = x := if_pos h
theorem up_of {w x : World} (h : Ext w x) : ∃ y, x = w.up y := ⟨x, (up_eq h).symm⟩
theorem Ext_up {a w x : World} (h : Ext a w) : Ext a (w.up x) ↔ True := ⟨fun _ => trivial, fun _ => h.trans (up_ext w x)⟩
theorem cell_up {w x : World} {p : Addr} (h : p.block < w.heap.size) : (w.up x).cell? p = w.cell? p := Below.cell (up_ext w x) h
theorem frozen_up {w x : World} {p : Addr} (h : p.block < w.heap.size) : (w.up x).frozen? p = w.frozen? p := Below.frozen (up_ext w x) h
attribute [go_sem] Ext_up cell_up frozen_up

section
variable {P : Program} {ops : Array Oper} {C : World → Prop}

/-! ### kinds of operations -/
/-- what may change the world, or hands on to another function -/
def seqOp : Op → Bool
  | .move _ | .assign _ | .pick .. | .load .. | .nilCheck _ | .binOp .. | .unOp .. | .convert .. | .slice .. | .fieldAddr .. | .field .. | .indexAddr .. | .index .. | .extract .. | .makeInterface .. => false
  | .call { callee := .builtin .len, .. } | .call { callee := .builtin .cap, .. } | .call { callee := .builtin .min, .. } | .call { callee := .builtin .max, .. } => false
  | _ => true

theorem value_run {s : Sem Value} {w w' : World} {n : Next} (h : (do pure (Next.value (← s)) : Sem Next).run P w = .ok n w') : ∃ v, n = .value v := by
  simp only [Sem.run_bind, Sem.run_pure] at h
  cases hs : s.run P w with
  | ok v w1 => rw [hs] at h; simp only [Result.andThen_ok] at h; injection h with h1 h2; exact ⟨v, h1.symm⟩
  | halt x w1 => rw [hs] at h; simp [Result.andThen] at h

theorem noEnter {o : Oper} (hs : seqOp o.op = false) {ρ : Operand → Value} {w w' : World} {n : Next} (h : (execOp ρ o).run P w = .ok n w') : (∃ v, n = .value v) ∨ n = .skip := by
  obtain ⟨dst, op, type, pos, after, guard⟩ := o
  simp only at hs
  cases op <;> simp only [seqOp, Bool.true_eq_false] at hs <;> simp only [execOp] at h
  case move x => simp only [Sem.run_pure] at h; injection h with h1; exact .inl ⟨_, h1.symm⟩
  case assign x => simp only [Sem.run_pure] at h; injection h with h1; exact .inl ⟨_, h1.symm⟩
  case call c =>
    obtain ⟨callee, args, tys⟩ := c
    cases callee with
    | value f => simp at hs
    | invoke r m => simp at hs
    | builtin b =>
      cases b <;> simp only [Bool.true_eq_false] at hs <;> simp only [resolve, invoke, builtin, Sem.run_bind, Sem.run_pure, Result.andThen_ok] at h <;>
        (revert h; generalize Sem.run P _ w = r; intro h; cases r with
          | ok v w1 => simp only [Result.andThen_ok] at h; injection h with h1; exact .inl ⟨_, h1.symm⟩
          | halt x w1 => simp [Result.andThen] at h)
  case nilCheck x =>
    have hp : ∀ (n : Next) (w w' : World), (runtimePanic (α := Next) .nilDeref).run P w = .ok n w' → False := fun n w w' h => by
      simp [runtimePanic, goPanic, go_sem] at h
    split at h
    · exact (hp _ _ _ h).elim
    · exact (hp _ _ _ h).elim
    · exact (hp _ _ _ h).elim
    · split at h
      · exact (hp _ _ _ h).elim
      · simp only [Sem.run_bind] at h
        cases hr : Sem.run P program w with
        | ok v w1 =>
          rw [hr] at h
          simp only [Result.andThen_ok] at h
          revert h
          generalize Sem.run P _ w1 = r
          intro h
          cases r with
          | ok v2 w2 =>
            simp only [Result.andThen_ok] at h
            split at h
            · simp only [Sem.run_bind] at h
              revert h
              generalize Sem.run P _ w2 = r2
              intro h
              cases r2 with
              | ok v3 w3 => simp only [Result.andThen_ok, Sem.run_pure] at h; injection h with h1; exact .inl ⟨_, h1.symm⟩
              | halt x w3 => simp [Result.andThen] at h
            · simp only [Sem.run_pure] at h; injection h with h1; exact .inl ⟨_, h1.symm⟩
          | halt x w2 => simp [Result.andThen] at h
        | halt x w1 => rw [hr] at h; simp [Result.andThen] at h
      · simp only [Sem.run_pure] at h; injection h with h1; exact .inl ⟨_, h1.symm⟩
    · simp only [Sem.run_pure] at h; injection h with h1; exact .inl ⟨_, h1.symm⟩
  all_goals first
    | exact .inl (value_run h)
    | (simp only [Sem.run_bind] at h; revert h; generalize Sem.run P _ w = r; intro h; cases r with
          | ok v w1 => simp only [Result.andThen_ok, Sem.run_pure] at h; first | (injection h with h1; exact .inl ⟨_, h1.symm⟩) | (injection h with h1; exact .inr h1.symm)
          | halt x w1 => simp [Result.andThen] at h)

/-! ### one operation -/
/-- the same value in every world of the class, the world left as it was -/
def FixAt (P : Program) (C : World → Prop) (o : Oper) (a : Act) (v : Value) : Prop :=
  ∀ w, C w → (execOp a.eval o).run P w = .ok (.value v) w ∨ ((execOp a.eval o).run P w = .ok .skip w ∧ v = undef)
theorem fix_of_quiet {o : Oper} {a : Act} {K : Act → Prop} (hs : seqOp o.op = false) (h : o.quiet P a C K) : ∃ v, FixAt P C o a v ∧ K (a.put o.dst v) := by
  obtain ⟨v, h1, h2⟩ := h
  refine ⟨v, fun w hw => ?_, h2⟩
  have h3 := h1 w hw
  unfold Oper.quietAt at h3
  cases hr : (execOp a.eval o).run P w with
  | ok n w' =>
    rw [hr] at h3
    rcases noEnter hs hr with ⟨u, rfl⟩ | rfl
    · simp only [Oper.quietUpon] at h3; obtain ⟨rfl, rfl⟩ := h3; exact .inl rfl
    · simp only [Oper.quietUpon] at h3; obtain ⟨rfl, rfl⟩ := h3; exact .inr ⟨rfl, rfl⟩
  | halt x w' => rw [hr] at h3; simp only [Oper.quietUpon] at h3
theorem FixAt.put {o : Oper} {a : Act} {v : Value} (h : FixAt P C o a v) (hs : ∀ cs b, o.op ≠ .select cs b) (dst : Option Tmp) (u : Value) (hd : ∀ d, dst = some d → d ∉ o.looksAt ops) : FixAt P C o (a.put dst u) v := by
  unfold FixAt at *; rwa [execOp_put (ops := ops) o hs a dst u hd]
theorem FixAt.unput {o : Oper} {a : Act} {v : Value} (hs : ∀ cs b, o.op ≠ .select cs b) (dst : Option Tmp) (u : Value) (hd : ∀ d, dst = some d → d ∉ o.looksAt ops) (h : FixAt P C o (a.put dst u) v) : FixAt P C o a v := by
  unfold FixAt at *; rwa [execOp_put (ops := ops) o hs a dst u hd] at h
theorem FixAt.uniq {o : Oper} {a : Act} {v u : Value} (h : FixAt P C o a v) (k : FixAt P C o a u) {w : World} (hw : C w) : v = u := by
  rcases h w hw with h1 | ⟨h1, rfl⟩ <;> rcases k w hw with k1 | ⟨k1, rfl⟩
  · rw [h1] at k1; injection k1 with k1; injection k1
  · rw [h1] at k1; injection k1 with k1; cases k1
  · rw [h1] at k1; injection k1 with k1; cases k1
  · rfl

/-- a step that may change the world within the class -/
def stepUpon (C : World → Prop) (P : Program) (o : Oper) (a : Act) (K : Act → World → Prop) : Result Next → Prop
  | .ok (.value v) w' => C w' ∧ K (a.put o.dst v) w'
  | .ok .skip w' => C w' ∧ K (a.put o.dst undef) w'
  | .ok (.enter f args) w' => Calls P f args w' fun e w'' => ∃ v, e = .returned v ∧ C w'' ∧ K (a.put o.dst v) w''
  | .ok (.row row args) w' => Rows P row args w' fun v w'' => C w'' ∧ K (a.put o.dst v) w''
  | _ => False
def stepAt (C : World → Prop) (P : Program) (o : Oper) (a : Act) (K : Act → World → Prop) (w : World) : Prop := stepUpon C P o a K ((execOp a.eval o).run P w)
theorem stepAt.mono {o : Oper} {a : Act} {K K' : Act → World → Prop} {w : World} (h : ∀ u w, C w → K (a.put o.dst u) w → K' (a.put o.dst u) w) (hh : stepAt C P o a K w) : stepAt C P o a K' w := by
  unfold stepAt at *
  generalize (execOp a.eval o).run P w = r at *
  cases r with
  | ok n w' =>
    cases n <;> simp only [stepUpon] at hh ⊢
    case value v => exact ⟨hh.1, h _ _ hh.1 hh.2⟩
    case skip => exact ⟨hh.1, h _ _ hh.1 hh.2⟩
    case enter f args => exact hh.mono fun e w'' ⟨v, h1, h2, h3⟩ => ⟨v, h1, h2, h _ _ h2 h3⟩
    case row row args => exact hh.mono fun v w'' ⟨h2, h3⟩ => ⟨h2, h _ _ h2 h3⟩
  | halt x w' => simp only [stepUpon] at hh
theorem stepAt.put {o : Oper} {a : Act} {K : Act → World → Prop} {w : World} (hs : ∀ cs b, o.op ≠ .select cs b) (dst : Option Tmp) (u : Value) (hd : ∀ d, dst = some d → d ∉ o.looksAt ops)
    (hne : ∀ d, dst = some d → o.dst ≠ some d) : stepAt C P o (a.put dst u) K w ↔ stepAt C P o a (fun a' w' => K (a'.put dst u) w') w := by
  unfold stepAt
  rw [execOp_put (ops := ops) o hs a dst u hd]
  generalize (execOp a.eval o).run P w = r
  cases r with
  | ok n w' => cases n <;> simp only [stepUpon, Act.put_comm a u _ hne]
  | halt x w' => simp only [stepUpon]
theorem stepAt.out {o : Oper} {a : Act} {K : Act → World → Prop} {w : World} (h : stepAt C P o a K w) : ∃ u w', C w' ∧ K (a.put o.dst u) w' := by
  unfold stepAt at h
  generalize (execOp a.eval o).run P w = r at *
  cases r with
  | ok n w' =>
    cases n <;> simp only [stepUpon] at h
    case value v => exact ⟨_, _, h⟩
    case skip => exact ⟨_, _, h⟩
    case enter f args => obtain ⟨e, w'', fr, ⟨v, _, h2, h3⟩, _⟩ := h []; exact ⟨_, _, h2, h3⟩
    case row row args => obtain ⟨v, w'', ⟨h2, h3⟩, _⟩ := h default []; exact ⟨_, _, h2, h3⟩
  | halt x w' => simp only [stepUpon] at h
theorem stepAt.wp {o : Oper} {a : Act} {K : Act → World → Prop} {Q : Exit → Act → World → Prop} {w : World} (h : stepAt C P o a K w) : o.wp P a w (fun a' w' => C w' ∧ K a' w') Q := by
  unfold stepAt at h
  unfold Oper.wp
  generalize (execOp a.eval o).run P w = r at *
  cases r with
  | ok n w' =>
    cases n <;> simp only [stepUpon] at h <;> simp only [Oper.upon]
    case value v => exact h
    case skip => exact h
    case enter f args => exact h.mono fun e w'' ⟨v, h1, h2, h3⟩ => by subst h1; exact ⟨h2, h3⟩
    case row row args => exact h
  | halt x w' => simp only [stepUpon] at h

/-- operation number i comes up -/
def mixOp (P : Program) (ops : Array Oper) (C : World → Prop) (i : Nat) (K : Act → World → Prop) (a : Act) (w : World) : Prop :=
  match ops[i]? with
  | none => K a w
  | some o => (Region.wanted o (yielded ops a.tmps) = false ∧ K (a.put o.dst undef) w) ∨
      (Region.wanted o (yielded ops a.tmps) = true ∧ seqOp o.op = false ∧ ∃ v, FixAt P C o a v ∧ K (a.put o.dst v) w) ∨
      (Region.wanted o (yielded ops a.tmps) = true ∧ seqOp o.op = true ∧ stepAt C P o a K w)
theorem mixOp.mono {i : Nat} {K K' : Act → World → Prop} {a : Act} {w : World} (hw : C w) (h : ∀ a w, C w → K a w → K' a w) (hh : mixOp P ops C i K a w) : mixOp P ops C i K' a w := by
  unfold mixOp at *
  cases ho : ops[i]? with
  | none => rw [ho] at hh; exact h _ _ hw hh
  | some o =>
    rw [ho] at hh
    rcases hh with ⟨h1, h2⟩ | ⟨h1, h2, v, h3, h4⟩ | ⟨h1, h2, h3⟩
    · exact .inl ⟨h1, h _ _ hw h2⟩
    · exact .inr (.inl ⟨h1, h2, v, h3, h _ _ hw h4⟩)
    · exact .inr (.inr ⟨h1, h2, h3.mono fun u w' hw' => h _ _ hw'⟩)
theorem mixOp.out {i : Nat} {K : Act → World → Prop} {a : Act} {w : World} (hw : C w) (h : mixOp P ops C i K a w) : ∃ a' w', C w' ∧ K a' w' := by
  unfold mixOp at h
  cases ho : ops[i]? with
  | none => rw [ho] at h; exact ⟨_, _, hw, h⟩
  | some o =>
    rw [ho] at h
    rcases h with ⟨h1, h2⟩ | ⟨h1, h2, v, h3, h4⟩ | ⟨h1, h2, h3⟩
    · exact ⟨_, _, hw, h2⟩
    · exact ⟨_, _, hw, h4⟩
    · obtain ⟨u, w', h4, h5⟩ := h3.out; exact ⟨_, _, h4, h5⟩

/-- two operations, apart, not both of the kind that changes the world: in either order -/
theorem mixOp.swap {i j : Nat} {oi oj : Oper} (hi : ops[i]? = some oi) (hj : ops[j]? = some oj) (hap : oi.apart ops oj = true) (hsi : ∀ cs b, oi.op ≠ .select cs b) (hsj : ∀ cs b, oj.op ≠ .select cs b)
    (hns : seqOp oi.op = true → seqOp oj.op = false) {K : Act → World → Prop} {a : Act} {w : World} (hw : C w)
    (h : mixOp P ops C i (fun a' w' => mixOp P ops C j K a' w') a w) : mixOp P ops C j (fun a' w' => mixOp P ops C i K a' w') a w := by
  obtain ⟨h1, h2, h3⟩ := Oper.apart_spec hap
  have wj : ∀ a u, Region.wanted oj (yielded ops (Act.put a oi.dst u).tmps) = Region.wanted oj (yielded ops a.tmps) := fun a u => wanted_put oj a oi.dst u h1
  have wi : ∀ a u, Region.wanted oi (yielded ops (Act.put a oj.dst u).tmps) = Region.wanted oi (yielded ops a.tmps) := fun a u => wanted_put oi a oj.dst u h3
  have pc : ∀ (a : Act) (v u : Value), (a.put oi.dst v).put oj.dst u = (a.put oj.dst u).put oi.dst v := fun a v u => Act.put_comm a v u h2
  have h2' : ∀ d, oj.dst = some d → oi.dst ≠ some d := fun d hd he => h2 d he hd
  -- what j is, once i has been
  have first : ∀ (v : Value), mixOp P ops C j K (a.put oi.dst v) w → (Region.wanted oi (yielded ops a.tmps) = false ∧ v = undef ∨ Region.wanted oi (yielded ops a.tmps) = true ∧ seqOp oi.op = false ∧ FixAt P C oi a v) →
      mixOp P ops C j (fun a' w' => mixOp P ops C i K a' w') a w := by
    intro v hk hv
    have fin : ∀ u w', C w' → K ((a.put oi.dst v).put oj.dst u) w' → mixOp P ops C i K (a.put oj.dst u) w' := fun u w' _ hK => by
      rw [pc] at hK
      unfold mixOp
      simp only [hi, wi]
      rcases hv with ⟨hv1, rfl⟩ | ⟨hv1, hv2, hv3⟩
      · exact .inl ⟨hv1, hK⟩
      · exact .inr (.inl ⟨hv1, hv2, v, hv3.put (ops := ops) hsi oj.dst u h3, hK⟩)
    unfold mixOp at hk
    simp only [hj, wj] at hk
    conv => unfold mixOp
    simp only [hj]
    rcases hk with ⟨k1, k2⟩ | ⟨k1, k2, u, k3, k4⟩ | ⟨k1, k2, k3⟩
    · exact .inl ⟨k1, fin _ _ hw k2⟩
    · exact .inr (.inl ⟨k1, k2, u, k3.unput (ops := ops) hsj oi.dst v h1, fin _ _ hw k4⟩)
    · refine .inr (.inr ⟨k1, k2, ?_⟩)
      rw [stepAt.put (ops := ops) hsj oi.dst v h1 h2] at k3
      exact k3.mono fun u w' hw' hK => fin u w' hw' (by rw [pc]; exact hK)
  unfold mixOp at h
  simp only [hi] at h
  rcases h with ⟨k1, k2⟩ | ⟨k1, k2, v, k3, k4⟩ | ⟨k1, k2, k3⟩
  · exact first _ k2 (.inl ⟨k1, rfl⟩)
  · exact first _ k4 (.inr ⟨k1, k2, k3⟩)
  · have hnj := hns k2
    have back : ∀ v, (Region.wanted oj (yielded ops a.tmps) = false ∧ v = undef ∨ Region.wanted oj (yielded ops a.tmps) = true ∧ FixAt P C oj a v) → mixOp P ops C i K (a.put oj.dst v) w := by
      intro v hv
      unfold mixOp
      simp only [hi, wi]
      refine .inr (.inr ⟨k1, k2, ?_⟩)
      rw [stepAt.put (ops := ops) hsi oj.dst v h3 h2']
      refine k3.mono fun u w' hw' hm => ?_
      unfold mixOp at hm
      simp only [hj, wj] at hm
      rcases hm with ⟨m1, m2⟩ | ⟨m1, m2, v', m3, m4⟩ | ⟨m1, m2, m3⟩
      · rcases hv with ⟨hv1, rfl⟩ | ⟨hv1, _⟩
        · exact m2
        · rw [hv1] at m1; cases m1
      · rcases hv with ⟨hv1, _⟩ | ⟨hv1, hv2⟩
        · rw [hv1] at m1; cases m1
        · rw [hv2.uniq (m3.unput (ops := ops) hsj oi.dst u h1) hw]; exact m4
      · rw [hnj] at m2; cases m2
    obtain ⟨u, w', hw', hm⟩ := k3.out
    simp only [hj, wj] at hm
    conv => unfold mixOp
    simp only [hj]
    rcases hm with ⟨m1, m2⟩ | ⟨m1, m2, v', m3, m4⟩ | ⟨m1, m2, m3⟩
    · exact .inl ⟨m1, back _ (.inl ⟨m1, rfl⟩)⟩
    · have m3' := m3.unput (ops := ops) hsj oi.dst u h1
      exact .inr (.inl ⟨m1, m2, v', m3', back _ (.inr ⟨m1, m3'⟩)⟩)
    · rw [hnj] at m2; cases m2

theorem getD_set_true' {listed : Array Bool} {i k : Nat} (h : listed.getD k true = true) : (listed.setIfInBounds i true).getD k true = true := by
  by_cases hik : i = k
  · subst hik
    rcases Nat.lt_or_ge i listed.size with h' | h'
    · simp [h']
    · simp [h']
  · rw [getD_set_ne true hik]; exact h

/-! ### whatever order is picked -/
def wpAnyX (P : Program) (md : Region.Mode) (ops : Array Oper) (C : World → Prop) (R : Act → World → Prop) : Nat → Array Bool → Act → World → Prop
  | 0, listed, a, w => Region.ready md ops listed = [] ∧ R a w
  | f + 1, listed, a, w => (Region.ready md ops listed = [] → R a w) ∧ ∀ i ∈ Region.ready md ops listed, mixOp P ops C i (wpAnyX P md ops C R f (listed.setIfInBounds i true)) a w

theorem wpOp_of_mix {i : Nat} {K : Act → World → Prop} {K' : Act → World → Prop} {Q : Exit → Act → World → Prop} {a : Act} {w : World} (hw : C w) (h : ∀ a w, C w → K a w → K' a w) (hh : mixOp P ops C i K a w) : wpOp P ops Q i K' a w := by
  unfold mixOp at hh
  unfold wpOp
  cases ho : ops[i]? with
  | none => rw [ho] at hh; exact h _ _ hw hh
  | some o =>
    rw [ho] at hh
    simp only at hh ⊢
    rcases hh with ⟨h1, h2⟩ | ⟨h1, h2, v, h3, h4⟩ | ⟨h1, h2, h3⟩
    · rw [if_neg (by rw [h1]; simp)]; exact h _ _ hw h2
    · rw [if_pos h1]
      refine .inl ?_
      unfold Oper.wp
      rcases h3 w hw with hr | ⟨hr, rfl⟩ <;> rw [hr]
      · exact h _ _ hw h4
      · exact h _ _ hw h4
    · rw [if_pos h1]
      exact .inl (Oper.wp_mono (fun a w hk => h a w hk.1 hk.2) h3.wp)
theorem wpAny_of_mix {md : Region.Mode} {R : Act → World → Prop} {Q : Exit → Act → World → Prop} (hQ : ∀ a w, C w → R a w → Q .normal a w) : ∀ (f : Nat) (listed : Array Bool) (a : Act) (w : World), C w →
    wpAnyX P md ops C R f listed a w → wpAny P md ops Q f listed a w
  | 0, _, _, _, hw, h => ⟨h.1, hQ _ _ hw h.2⟩
  | f + 1, _, _, _, hw, h => ⟨fun h0 => hQ _ _ hw (h.1 h0), fun i hi => wpOp_of_mix hw (fun a' w' hw' => wpAny_of_mix hQ f _ a' w' hw') (h.2 i hi)⟩

/-- what has come up has come up behind what it waits for -/
def Cl (md : Region.Mode) (ops : Array Oper) (listed : Array Bool) : Prop := ∀ j oj, ops[j]? = some oj → listed.getD j false = true → ∀ e ∈ oj.after, Region.binds md e = true → listed.getD e.on false = true
theorem Cl.set {md : Region.Mode} {i : Nat} {listed : Array Bool} (h : Cl md ops listed) (hi : i ∈ Region.ready md ops listed) : Cl md ops (listed.setIfInBounds i true) := by
  obtain ⟨_, oi, hoi, hall⟩ := mem_ready.1 hi
  intro j oj hj hl e he hb
  by_cases hij : i = j
  · subst hij
    have : oj = oi := Option.some.inj (hj.symm.trans hoi)
    subst this
    exact getD_set_true (hall e he hb)
  · rw [getD_set_ne false hij] at hl
    exact getD_set_true (h j oj hj hl e he hb)
/-- j waits for i, by way of others maybe -/
def reach (md : Region.Mode) (ops : Array Oper) : Nat → Nat → Nat → Bool
  | 0, j, i => j == i
  | f + 1, j, i => j == i || match ops[j]? with
    | some oj => oj.after.any fun e => Region.binds md e && reach md ops f e.on i
    | none => false
theorem reach_listed {md : Region.Mode} {i : Nat} {listed : Array Bool} (h : Cl md ops listed) : ∀ (f j : Nat), listed.getD j false = true → reach md ops f j i = true → listed.getD i false = true
  | 0, j, hl, hr => by simp only [reach, beq_iff_eq] at hr; rwa [hr] at hl
  | f + 1, j, hl, hr => by
    simp only [reach, Bool.or_eq_true, beq_iff_eq] at hr
    rcases hr with rfl | hr
    · exact hl
    · split at hr
      · rename_i oj hj
        obtain ⟨e, he, hb⟩ := Array.any_eq_true'.1 hr
        simp only [Bool.and_eq_true] at hb
        exact reach_listed h f e.on (h j oj hj hl e he hb.1) hb.2
      · cases hr
theorem ready_reach {md : Region.Mode} {i j : Nat} {listed : Array Bool} (h : Cl md ops listed) (hj : j ∈ Region.ready md ops listed) (hne : j ≠ i) {f : Nat} (hr : reach md ops f j i = true) : listed.getD i false = true := by
  obtain ⟨_, oj, hoj, hall⟩ := mem_ready.1 hj
  cases f with
  | zero => simp only [reach, beq_iff_eq] at hr; exact absurd hr hne
  | succ f =>
    simp only [reach, Bool.or_eq_true, beq_iff_eq] at hr
    rcases hr with hr | hr
    · exact absurd hr hne
    · rw [hoj] at hr
      obtain ⟨e, he, hb⟩ := Array.any_eq_true'.1 hr
      simp only [Bool.and_eq_true] at hb
      exact reach_listed h f e.on (hall e he hb.1) hb.2

/-- of two operations that change the world the later one waits for the earlier one -/
def seqB (md : Region.Mode) (ops : Array Oper) : Bool :=
  (List.range ops.size).all fun i => match ops[i]? with
    | some oi => !seqOp oi.op || (List.range ops.size).all fun j => decide (j ≤ i) || match ops[j]? with
      | some oj => !seqOp oj.op || reach md ops ops.size j i
      | none => true
    | none => true
theorem seqB_spec {md : Region.Mode} (h : seqB md ops = true) {i j : Nat} {oi oj : Oper} (hi : ops[i]? = some oi) (hj : ops[j]? = some oj) (hs : seqOp oi.op = true) (hs' : seqOp oj.op = true) (hlt : i < j) : reach md ops ops.size j i = true := by
  have h1 := List.all_eq_true.1 h i (List.mem_range.2 (Array.getElem?_eq_some_iff.1 hi).1)
  simp only [hi, hs, Bool.not_true, Bool.false_or] at h1
  have h2 := List.all_eq_true.1 h1 j (List.mem_range.2 (Array.getElem?_eq_some_iff.1 hj).1)
  simp only [hj, hs', Bool.not_true, Bool.false_or, Bool.or_eq_true, decide_eq_true_eq] at h2
  rcases h2 with h2 | h2
  · omega
  · exact h2

/-- the operation that comes first in the text, of those that have not come up, may be taken first -/
theorem wpAnyX_first {md : Region.Mode} {R : Act → World → Prop} {i : Nat} {oi : Oper} (hi : ops[i]? = some oi) (hsel : ∀ (j : Nat) (o : Oper) cs b, ops[j]? = some o → o.op ≠ .select cs b) (hsq : seqB md ops = true) :
    ∀ (f : Nat) (listed : Array Bool) (a : Act) (w : World), C w → Cl md ops listed → (∀ j, j < i → listed.getD j true = true) →
      (∀ j oj, ops[j]? = some oj → j ≠ i → listed.getD j true = false → (∀ e ∈ oj.after, Region.binds md e = true → e.on ≠ i) → oi.apart ops oj = true) →
      i ∈ Region.ready md ops listed → mixOp P ops C i (wpAnyX P md ops C R f (listed.setIfInBounds i true)) a w → wpAnyX P md ops C R (f + 1) listed a w := by
  intro f
  induction f with
  | zero =>
    intro listed a w hw _ _ _ hr H
    refine ⟨fun h => (by rw [h] at hr; cases hr), fun j hj => ?_⟩
    by_cases hji : j = i
    · subst hji; exact H
    · obtain ⟨a', w', _, h0⟩ := H.out hw
      have := ready_mono hj hji
      rw [h0.1] at this
      cases this
  | succ f ih =>
    intro listed a w hw hcl hbelow hfree hr H
    refine ⟨fun h => (by rw [h] at hr; cases hr), fun j hj => ?_⟩
    by_cases hji : j = i
    · subst hji; exact H
    · obtain ⟨hjun, oj, hoj, hall⟩ := mem_ready.1 hj
      have hiun := (mem_ready.1 hr).1
      have hilt : i < listed.size := by
        rcases Nat.lt_or_ge i listed.size with h' | h'
        · exact h'
        · simp [Array.getElem?_eq_none h'] at hiun
      have hiunf : listed.getD i false = false := by simp [hilt] at hiun ⊢; exact hiun
      have hnot : ∀ e ∈ oj.after, Region.binds md e = true → e.on ≠ i := fun e he hb heq => by
        have h1 := hall e he hb
        rw [heq, hiunf] at h1; cases h1
      have hij : i < j := by
        rcases Nat.lt_or_ge i j with h' | h'
        · exact h'
        · have := hbelow j (by omega); rw [hjun] at this; cases this
      have hap := hfree j oj hoj hji hjun hnot
      have hns : seqOp oi.op = true → seqOp oj.op = false := fun hs => by
        cases hs' : seqOp oj.op with
        | false => rfl
        | true =>
          have := ready_reach hcl hj hji (seqB_spec hsq hi hoj hs hs' hij)
          rw [hiunf] at this; cases this
      have h2 : mixOp P ops C i (fun a' w' => mixOp P ops C j (wpAnyX P md ops C R f ((listed.setIfInBounds i true).setIfInBounds j true)) a' w') a w :=
        H.mono hw fun a' w' _ hx => hx.2 j (ready_mono hj hji)
      have h3 := mixOp.swap hi hoj hap (fun cs b => hsel i oi cs b hi) (fun cs b => hsel j oj cs b hoj) hns hw h2
      refine h3.mono hw fun a' w' hw' h4 => ih (listed.setIfInBounds j true) a' w' hw' (hcl.set hj) ?_ ?_ (ready_mono hr (Ne.symm hji)) ?_
      · intro k hk
        exact getD_set_true' (hbelow k hk)
      · intro k ok hk hki hun hno
        refine hfree k ok hk hki ?_ hno
        by_cases hjk : j = k
        · subst hjk; exact hjun
        · rw [getD_set_ne true hjk] at hun; exact hun
      · rw [Array.setIfInBounds_comm _ _ hji]
        exact h4

/-- the walk in the text's order -/
def wpMix (P : Program) (ops : Array Oper) (C : World → Prop) (R : Act → World → Prop) : List Oper → Act → World → Prop
  | [], a, w => R a w
  | o :: rest, a, w => (Region.wanted o (yielded ops a.tmps) = false ∧ wpMix P ops C R rest (a.put o.dst undef) w) ∨
      (Region.wanted o (yielded ops a.tmps) = true ∧ seqOp o.op = false ∧ ∃ v, FixAt P C o a v ∧ wpMix P ops C R rest (a.put o.dst v) w) ∨
      (Region.wanted o (yielded ops a.tmps) = true ∧ seqOp o.op = true ∧ stepAt C P o a (wpMix P ops C R rest) w)

theorem wpAnyX_lex {md : Region.Mode} {R : Act → World → Prop} (hs : Region.noSelect ops = true) (hsq : seqB md ops = true) : ∀ (l : List Oper) (k : Nat) (listed : Array Bool) (a : Act) (w : World), (∀ j, l[j]? = ops[k + j]?) → C w → Cl md ops listed →
    (∀ j, j < k → listed.getD j true = true) → Region.lexFrom md ops l.length k listed = true → wpMix P ops C R l a w → wpAnyX P md ops C R l.length listed a w
  | [], _, _, _, _, _, _, _, _, hB, h => ⟨by simpa [Region.lexFrom] using hB, h⟩
  | o :: l, k, listed, a, w, hl, hw, hcl, hbl, hB, h => by
    have h0 : ops[k]? = some o := by simpa using (hl 0).symm
    simp only [List.length_cons, Region.lexFrom, Bool.and_eq_true] at hB
    obtain ⟨⟨hr, hf⟩, hB'⟩ := hB
    have hr' : k ∈ Region.ready md ops listed := by simpa using hr
    have hm : mixOp P ops C k (wpMix P ops C R l) a w := by unfold mixOp; simp only [h0]; exact h
    refine wpAnyX_first h0 (Region.noSelect_spec hs) hsq l.length listed a w hw hcl hbl (Region.free_spec h0 hf) hr' (hm.mono hw fun a' w' hw' hx => ?_)
    refine wpAnyX_lex hs hsq l (k + 1) _ a' w' (fun j => by have := hl (j + 1); simpa [Nat.add_assoc, Nat.add_comm 1 j] using this) hw' (hcl.set hr') (fun j hj => ?_) hB' hx
    by_cases hjk : j = k
    · subst hjk
      have hlt : j < listed.size := by
        rcases Nat.lt_or_ge j listed.size with h' | h'
        · exact h'
        · have := (mem_ready.1 hr').1; simp [Array.getElem?_eq_none h'] at this
      simp [hlt]
    · exact getD_set_true' (hbl j (by omega))

theorem wp_region_mix {id : Nat} {Q : Exit → Act → World → Prop} {a : Act} {w : World} (hm : P.follows .mixedOrders = true) (hB : Region.lexB .any ops = true) (hS : seqB .any ops = true) (hC : C { w with drawn := w.drawn + 1 })
    (h : wpMix P ops C (fun a' w' => C w' → Q .normal a' w') ops.toList a { w with drawn := w.drawn + 1 }) : (Code.region id ops true).wp P Q a w := by
  simp only [Region.lexB, Bool.and_eq_true] at hB
  refine wp_region_any hm (wpAny_of_mix (R := fun a' w' => C w' → Q .normal a' w') (fun a' w' hw' h => h hw') _ _ _ _ hC ?_)
  have := wpAnyX_lex (C := C) (md := .any) (R := fun a' w' => C w' → Q .normal a' w') hB.1 hS ops.toList 0 (Array.replicate ops.size false) a _ (by simp) hC (fun j oj _ hl => by rw [getD_replicate_false] at hl; cases hl) (fun j hj => by omega) (by simpa using hB.2) h
  simpa using this

/-- in the worlds that go on from the region's start -/
theorem wp_region_up {id : Nat} {Q : Exit → Act → World → Prop} {a : Act} {w : World} {l : List Oper} (hm : P.follows .mixedOrders = true) (hB : Region.lexB .any l.toArray = true) (hS : seqB .any l.toArray = true)
    (h : wpMix P l.toArray (fun w' => ∃ x, w' = w.drew.up x) (fun a' w' => Q .normal a' w') l a w.drew) : (Code.region id l.toArray true).wp P Q a w := by
  refine wp_region_mix (C := fun w' => ∃ x, w' = w.drew.up x) hm hB hS (up_of (Ext.refl _)) ?_
  have mono : ∀ (l' : List Oper) (a : Act) (w' : World), wpMix P l.toArray (fun w' => ∃ x, w' = w.drew.up x) (fun a' w' => Q .normal a' w') l' a w' → wpMix P l.toArray (fun w' => ∃ x, w' = w.drew.up x) (fun a' w' => (∃ x, w' = w.drew.up x) → Q .normal a' w') l' a w' := by
    intro l'
    induction l' with
    | nil => intro a w' h _; exact h
    | cons o rest ih =>
      intro a w' h
      rcases h with ⟨h1, h2⟩ | ⟨h1, h2, v, h3, h4⟩ | ⟨h1, h2, h3⟩
      · exact .inl ⟨h1, ih _ _ h2⟩
      · exact .inr (.inl ⟨h1, h2, v, h3, ih _ _ h4⟩)
      · exact .inr (.inr ⟨h1, h2, h3.mono fun u w' _ => ih _ _⟩)
  exact mono _ _ _ h

/-- in the worlds that go on from an earlier one: what the call itself has made since may change -/
theorem wp_region_from {id : Nat} {Q : Exit → Act → World → Prop} {a : Act} {w : World} {l : List Oper} (w0 : World) (h0 : Ext w0 w) (hm : P.follows .mixedOrders = true) (hB : Region.lexB .any l.toArray = true) (hS : seqB .any l.toArray = true)
    (h : wpMix P l.toArray (fun w' => ∃ x, w' = w0.up x) (fun a' w' => Q .normal a' w') l a w.drew) : (Code.region id l.toArray true).wp P Q a w := by
  refine wp_region_mix (C := fun w' => ∃ x, w' = w0.up x) hm hB hS (up_of h0.drew) ?_
  have mono : ∀ (l' : List Oper) (a : Act) (w' : World), wpMix P l.toArray (fun w' => ∃ x, w' = w0.up x) (fun a' w' => Q .normal a' w') l' a w' → wpMix P l.toArray (fun w' => ∃ x, w' = w0.up x) (fun a' w' => (∃ x, w' = w0.up x) → Q .normal a' w') l' a w' := by
    intro l'
    induction l' with
    | nil => intro a w' h _; exact h
    | cons o rest ih =>
      intro a w' h
      rcases h with ⟨h1, h2⟩ | ⟨h1, h2, v, h3, h4⟩ | ⟨h1, h2, h3⟩
      · exact .inl ⟨h1, ih _ _ h2⟩
      · exact .inr (.inl ⟨h1, h2, v, h3, ih _ _ h4⟩)
      · exact .inr (.inr ⟨h1, h2, h3.mono fun u w' _ => ih _ _⟩)
  exact mono _ _ _ h

/-! ### the last operation apart: it may do what it will -/
def wpAnyY (P : Program) (md : Region.Mode) (ops : Array Oper) (C : World → Prop) (n : Nat) (L : Array Bool → Act → World → Prop) : Nat → Array Bool → Act → World → Prop
  | 0, listed, a, w => L listed a w
  | f + 1, listed, a, w => Region.ready md ops listed ≠ [] ∧ ∀ i ∈ Region.ready md ops listed, i < n ∧ mixOp P ops C i (wpAnyY P md ops C n L f (listed.setIfInBounds i true)) a w
theorem wpAny_of_Y {md : Region.Mode} {n g : Nat} {L : Array Bool → Act → World → Prop} {Q : Exit → Act → World → Prop} (hL : ∀ listed a w, C w → L listed a w → wpAny P md ops Q g listed a w) : ∀ (f : Nat) (listed : Array Bool) (a : Act) (w : World), C w →
    wpAnyY P md ops C n L f listed a w → wpAny P md ops Q (f + g) listed a w
  | 0, _, _, _, hw, h => by rw [Nat.zero_add]; exact hL _ _ _ hw h
  | f + 1, _, _, _, hw, h => by
    rw [show f + 1 + g = (f + g) + 1 by omega]
    exact ⟨fun h0 => absurd h0 h.1, fun i hi => wpOp_of_mix hw (fun a' w' hw' => wpAny_of_Y hL f _ a' w' hw') (h.2 i hi).2⟩
theorem wpAnyY_first {md : Region.Mode} {n : Nat} {L : Array Bool → Act → World → Prop} {i : Nat} {oi : Oper} (hi : ops[i]? = some oi) (hin : i < n) (hsel : ∀ (j : Nat) (o : Oper) cs b, ops[j]? = some o → o.op ≠ .select cs b) (hsq : seqB md ops = true)
    (hlast : ∀ j, n ≤ j → j < ops.size → reach md ops ops.size j i = true) (hdone : ∀ listed a w, L listed a w → ∀ j ∈ Region.ready md ops listed, n ≤ j) :
    ∀ (f : Nat) (listed : Array Bool) (a : Act) (w : World), C w → Cl md ops listed → (∀ j, j < i → listed.getD j true = true) →
      (∀ j oj, ops[j]? = some oj → j ≠ i → listed.getD j true = false → (∀ e ∈ oj.after, Region.binds md e = true → e.on ≠ i) → oi.apart ops oj = true) →
      i ∈ Region.ready md ops listed → mixOp P ops C i (wpAnyY P md ops C n L f (listed.setIfInBounds i true)) a w → wpAnyY P md ops C n L (f + 1) listed a w := by
  have notLast : ∀ (listed : Array Bool), Cl md ops listed → i ∈ Region.ready md ops listed → ∀ j ∈ Region.ready md ops listed, j < n := by
    intro listed hcl hr j hj
    have hiun := (mem_ready.1 hr).1
    have hilt : i < listed.size := by
      rcases Nat.lt_or_ge i listed.size with h' | h'
      · exact h'
      · simp [Array.getElem?_eq_none h'] at hiun
    have hiunf : listed.getD i false = false := by simp [hilt] at hiun ⊢; exact hiun
    rcases Nat.lt_or_ge j n with h | h
    · exact h
    · obtain ⟨_, oj, hoj, _⟩ := mem_ready.1 hj
      have := ready_reach hcl hj (by omega) (hlast j h (Array.getElem?_eq_some_iff.1 hoj).1)
      rw [hiunf] at this; cases this
  intro f
  induction f with
  | zero =>
    intro listed a w hw hcl _ _ hr H
    refine ⟨fun h => (by rw [h] at hr; cases hr), fun j hj => ⟨notLast listed hcl hr j hj, ?_⟩⟩
    by_cases hji : j = i
    · subst hji; exact H
    · obtain ⟨a', w', _, h0⟩ := H.out hw
      have h1 := hdone _ _ _ h0 j (ready_mono hj hji)
      have h2 := notLast listed hcl hr j hj
      omega
  | succ f ih =>
    intro listed a w hw hcl hbelow hfree hr H
    refine ⟨fun h => (by rw [h] at hr; cases hr), fun j hj => ⟨notLast listed hcl hr j hj, ?_⟩⟩
    by_cases hji : j = i
    · subst hji; exact H
    · obtain ⟨hjun, oj, hoj, hall⟩ := mem_ready.1 hj
      have hiun := (mem_ready.1 hr).1
      have hilt : i < listed.size := by
        rcases Nat.lt_or_ge i listed.size with h' | h'
        · exact h'
        · simp [Array.getElem?_eq_none h'] at hiun
      have hiunf : listed.getD i false = false := by simp [hilt] at hiun ⊢; exact hiun
      have hnot : ∀ e ∈ oj.after, Region.binds md e = true → e.on ≠ i := fun e he hb heq => by
        have h1 := hall e he hb
        rw [heq, hiunf] at h1; cases h1
      have hij : i < j := by
        rcases Nat.lt_or_ge i j with h' | h'
        · exact h'
        · have := hbelow j (by omega); rw [hjun] at this; cases this
      have hap := hfree j oj hoj hji hjun hnot
      have hns : seqOp oi.op = true → seqOp oj.op = false := fun hs => by
        cases hs' : seqOp oj.op with
        | false => rfl
        | true =>
          have := ready_reach hcl hj hji (seqB_spec hsq hi hoj hs hs' hij)
          rw [hiunf] at this; cases this
      have h2 : mixOp P ops C i (fun a' w' => mixOp P ops C j (wpAnyY P md ops C n L f ((listed.setIfInBounds i true).setIfInBounds j true)) a' w') a w :=
        H.mono hw fun a' w' _ hx => (hx.2 j (ready_mono hj hji)).2
      have h3 := mixOp.swap hi hoj hap (fun cs b => hsel i oi cs b hi) (fun cs b => hsel j oj cs b hoj) hns hw h2
      refine h3.mono hw fun a' w' hw' h4 => ih (listed.setIfInBounds j true) a' w' hw' (hcl.set hj) ?_ ?_ (ready_mono hr (Ne.symm hji)) ?_
      · intro k hk
        exact getD_set_true' (hbelow k hk)
      · intro k ok hk hki hun hno
        refine hfree k ok hk hki ?_ hno
        by_cases hjk : j = k
        · subst hjk; exact hjun
        · rw [getD_set_ne true hjk] at hun; exact hun
      · rw [Array.setIfInBounds_comm _ _ hji]
        exact h4
def LastL (md : Region.Mode) (ops : Array Oper) (n : Nat) (R : Act → World → Prop) (listed : Array Bool) (a : Act) (w : World) : Prop :=
  (∀ j ∈ Region.ready md ops listed, n ≤ j) ∧ Region.lexFrom md ops 1 n listed = true ∧ R a w
theorem wpAnyY_lex {md : Region.Mode} {R : Act → World → Prop} {n : Nat} (hs : Region.noSelect ops = true) (hsq : seqB md ops = true) (hlast : ∀ i, i < n → ∀ j, n ≤ j → j < ops.size → reach md ops ops.size j i = true) : ∀ (l : List Oper) (k : Nat) (listed : Array Bool) (a : Act) (w : World), (∀ j, j < l.length → l[j]? = ops[k + j]?) → k + l.length = n → C w → Cl md ops listed →
    (∀ j, j < k → listed.getD j true = true) → Region.lexFrom md ops (l.length + 1) k listed = true → wpMix P ops C R l a w → wpAnyY P md ops C n (LastL md ops n R) l.length listed a w
  | [], k, listed, _, _, _, hk, _, _, hbl, hB, h => by
    obtain rfl : k = n := by simpa using hk
    refine ⟨fun j hj => ?_, by simpa using hB, h⟩
    rcases Nat.lt_or_ge j k with h' | h'
    · have h1 := hbl j h'; have h2 := (mem_ready.1 hj).1; rw [h1] at h2; cases h2
    · exact h'
  | o :: l, k, listed, a, w, hl, hk, hw, hcl, hbl, hB, h => by
    have h0 : ops[k]? = some o := by simpa using (hl 0 (by simp)).symm
    simp only [List.length_cons] at hk
    rw [List.length_cons] at hB
    unfold Region.lexFrom at hB
    simp only [Bool.and_eq_true] at hB
    obtain ⟨⟨hr, hf⟩, hB'⟩ := hB
    have hr' : k ∈ Region.ready md ops listed := by simpa using hr
    have hm : mixOp P ops C k (wpMix P ops C R l) a w := by unfold mixOp; simp only [h0]; exact h
    refine wpAnyY_first h0 (by omega) (Region.noSelect_spec hs) hsq (hlast k (by omega)) (fun _ _ _ hL => hL.1) l.length listed a w hw hcl hbl (Region.free_spec h0 hf) hr' (hm.mono hw fun a' w' hw' hx => ?_)
    refine wpAnyY_lex hs hsq hlast l (k + 1) _ a' w' (fun j hj => by have := hl (j + 1) (by simp; omega); simpa [Nat.add_assoc, Nat.add_comm 1 j] using this) (by omega) hw' (hcl.set hr') (fun j hj => ?_) hB' hx
    by_cases hjk : j = k
    · subst hjk
      have hlt : j < listed.size := by
        rcases Nat.lt_or_ge j listed.size with h' | h'
        · exact h'
        · have := (mem_ready.1 hr').1; simp [Array.getElem?_eq_none h'] at this
      simp [hlt]
    · exact getD_set_true' (hbl j (by omega))
/-- the last one waits for all others -/
def lastB (md : Region.Mode) (ops : Array Oper) (n : Nat) : Bool := decide (ops.size = n + 1) && (List.range n).all fun i => reach md ops ops.size n i
theorem wp_region_last {id : Nat} {Q : Exit → Act → World → Prop} {a : Act} {w : World} {l : List Oper} {last : Oper} (hm : P.follows .mixedOrders = true) (hB : Region.lexB .any (l ++ [last]).toArray = true) (hS : seqB .any (l ++ [last]).toArray = true) (hT : lastB .any (l ++ [last]).toArray l.length = true) (hC : C w.drew)
    (h : wpMix P (l ++ [last]).toArray C (fun a' w' => wpList P (l ++ [last]).toArray Q [last] a' w') l a w.drew) : (Code.region id (l ++ [last]).toArray true).wp P Q a w := by
  simp only [Region.lexB, Bool.and_eq_true] at hB
  simp only [lastB, Bool.and_eq_true, decide_eq_true_eq, List.all_eq_true] at hT
  have hlen : (l ++ [last]).toArray.size = l.length + 1 := hT.1
  refine wp_region_any hm ?_
  rw [hlen]
  have hY := wpAnyY_lex (P := P) (ops := (l ++ [last]).toArray) (C := C) (md := .any) (n := l.length) (R := fun a' w' => wpList P (l ++ [last]).toArray Q [last] a' w') hB.1 hS (fun i hi j hj hj2 => by
      obtain rfl : j = l.length := by omega
      exact hT.2 i (List.mem_range.2 hi)) l 0 (Array.replicate (l ++ [last]).toArray.size false) a w.drew (fun j hj => by simp [List.getElem?_append_left hj]) (by simp) hC
      (fun j oj _ hl => by rw [getD_replicate_false] at hl; cases hl) (fun j hj => by omega) (by rw [← hlen]; exact hB.2) h
  rw [hlen] at hY
  refine wpAny_of_Y (g := 1) (fun listed a' w' hw' hL => ?_) l.length _ a w.drew hC hY
  obtain ⟨h1, h2, h3⟩ := hL
  simp only [Region.lexFrom, Bool.and_eq_true] at h2
  obtain ⟨⟨h4, _⟩, h5⟩ := h2
  have h4' : l.length ∈ Region.ready .any (l ++ [last]).toArray listed := by simpa using h4
  refine ⟨fun h0 => (by rw [h0] at h4'; cases h4'), fun i hi => ?_⟩
  have hi1 := h1 i hi
  obtain ⟨_, oi, hoi, _⟩ := mem_ready.1 hi
  have hi2 := (Array.getElem?_eq_some_iff.1 hoi).1
  obtain rfl : i = l.length := by omega
  have hoi' : oi = last := by simpa using hoi.symm
  subst hoi'
  unfold wpList at h3
  unfold wpOp
  rw [hoi]
  have fin : ∀ a w, Q .normal a w → wpAny P .any (l ++ [oi]).toArray Q 0 (listed.setIfInBounds l.length true) a w := fun a w hq => ⟨by simpa using h5, hq⟩
  split at h3
  · rename_i hw
    simp only [hw, if_true]
    rcases h3 with h3 | h3
    · exact .inl (Oper.wp_mono (fun a w hk => fin a w hk) h3)
    · exact .inr h3
  · rename_i hw
    simp only [hw]
    exact fin _ _ h3

/-! ### a class of worlds by a choice -/
open Classical in
noncomputable def _root_.Go.World.pk (C : World → Prop) (w x : World) : World := if C x then x else w
theorem pk_in {C : World → Prop} {w : World} (h : C w) (x : World) : C (World.pk C w x) := by unfold World.pk; split; assumption; exact h
theorem pk_of {C : World → Prop} {w x : World} (h : C x) : ∃ y, x = World.pk C w y := ⟨x, by unfold World.pk; rw [if_pos h]⟩

/-- the last operation apart, the others in a class of worlds that is chosen -/
theorem wp_region_pk {id : Nat} {Q : Exit → Act → World → Prop} {a : Act} {w : World} {l : List Oper} (C0 : World → Prop) (n : Nat) (hC : C0 w.drew) (hn : l.length = n + 1) (hm : P.follows .mixedOrders = true) (hB : Region.lexB .any l.toArray = true) (hS : seqB .any l.toArray = true) (hT : lastB .any l.toArray n = true)
    (h : wpMix P l.toArray (fun w' => ∃ x, w' = World.pk C0 w.drew x) (fun a' w' => wpList P l.toArray Q (l.drop n) a' w') (l.take n) a w.drew) : (Code.region id l.toArray true).wp P Q a w := by
  have hd : l.drop n = [l[n]] := by
    rw [List.drop_eq_getElem_cons (by omega), List.drop_eq_nil_of_le (by omega)]
  have hl : l = l.take n ++ [l[n]] := by rw [← hd, List.take_append_drop]
  have hln : (l.take n).length = n := by simp; omega
  rw [hd] at h
  generalize l.take n = l1 at *
  generalize l[n] = o at *
  subst hl
  subst hln
  exact wp_region_last hm hB hS hT (pk_of hC) h

/-! ### steps of the walk -/
theorem mix_nil {R : Act → World → Prop} {a : Act} {w : World} (h : R a w) : wpMix P ops C R [] a w := h
/-- an operation that only gives a value, by the walk of quiet regions -/
theorem mix_q {R : Act → World → Prop} {a : Act} {w : World} {o : Oper} {rest : List Oper} (hs : seqOp o.op = false) (h : wpQuiet P ops C (fun a' => wpMix P ops C R rest a' w) [o] a) : wpMix P ops C R (o :: rest) a w := by
  unfold wpQuiet at h
  split at h
  · rename_i hw
    obtain ⟨v, h1, h2⟩ := fix_of_quiet hs h
    exact .inr (.inl ⟨hw, hs, v, h1, h2⟩)
  · rename_i hw
    exact .inl ⟨by simpa using hw, h⟩
theorem step_of_wp {K : Act → World → Prop} {a : Act} {w : World} {o : Oper} {Q : Exit → Act → World → Prop} (hQ : ∀ e a w, e ≠ .normal → ¬ Q e a w) (h : o.wp P a w (fun a' w' => a'.defers = a.defers ∧ C w' ∧ K a' w') Q) : stepAt C P o a K w := by
  unfold Oper.wp at h
  unfold stepAt
  generalize (execOp a.eval o).run P w = r at *
  cases r with
  | ok n w' =>
    cases n <;> simp only [Oper.upon] at h <;> simp only [stepUpon]
    case value v => exact h.2
    case skip => exact h.2
    case defer d =>
      have := h.1
      cases hd : o.dst <;> rw [hd] at this <;> simp [Act.put] at this
    case enter f args =>
      refine h.mono fun e w'' he => ?_
      cases e with
      | returned v => exact ⟨v, rfl, he.2⟩
      | panicked c => exact (hQ _ _ _ (by simp) he).elim
      | outgrown => obtain ⟨_, _, h⟩ := he; exact (hQ _ _ _ (by simp) h).elim
    case row => exact h.mono fun _ _ he => he.2
  | halt x w' =>
    cases x <;> simp only [Oper.upon] at h
    exact (hQ _ _ _ (by simp) h).elim
/-- a call, a new block: by the walk of plain regions -/
theorem mix_s {R : Act → World → Prop} {a : Act} {w : World} {o : Oper} {rest : List Oper} (hs : seqOp o.op = true)
    (h : wpList P ops (fun e a' w' => e = .normal ∧ a'.defers = a.defers ∧ C w' ∧ wpMix P ops C R rest a' w') [o] a w) : wpMix P ops C R (o :: rest) a w := by
  unfold wpList at h
  have hq : ∀ (e : Exit) (a' : Act) (w' : World), e ≠ .normal → ¬ (e = .normal ∧ a'.defers = a.defers ∧ C w' ∧ wpMix P ops C R rest a' w') := fun e _ _ h h' => h h'.1
  split at h
  · rename_i hw
    rcases h with h | ⟨_, _, _, h⟩
    · refine .inr (.inr ⟨hw, hs, step_of_wp hq ?_⟩)
      exact Oper.wp_mono (fun a' w' hk => hk.2) h
    · exact (hq _ _ _ (by simp) h).elim
  · rename_i hw
    unfold wpList at h
    exact .inl ⟨by simpa using hw, h.2.2.2⟩
attribute [irreducible] wpMix
end
end Go.Proofs.Ytccoopnoakhedaa
