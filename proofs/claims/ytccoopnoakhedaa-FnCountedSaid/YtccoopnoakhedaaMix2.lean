/- As Mix, with operations named by their slots that read what the region's own calls have made: these are taken in the text's order too. Conditions: none; nothing here speaks of a program's text. -/
import Derived.Test.YtccoopnoakhedaaMix
namespace Go.Proofs.Ytccoopnoakhedaa
set_option maxRecDepth 100000
open Go.RowKit

/-- operations that come one after another: those that change the world, and those that write the slots D -/
def sqD (D : List Nat) (o : Oper) : Bool := seqOp o.op || match o.dst with | some d => D.contains d | none => false
theorem sqD_no {D : List Nat} {o : Oper} (h : sqD D o = false) : seqOp o.op = false := by
  unfold sqD at h
  cases hs : seqOp o.op with
  | false => rfl
  | true => rw [hs] at h; cases h
section
variable {P : Program} {ops : Array Oper} {C : World → Prop} {D : List Nat}

/-- operation number i comes up -/
def mixOpC (D : List Nat) (P : Program) (ops : Array Oper) (C : World → Prop) (i : Nat) (K : Act → World → Prop) (a : Act) (w : World) : Prop :=
  match ops[i]? with
  | none => K a w
  | some o => (Region.wanted o (yielded ops a.tmps) = false ∧ K (a.put o.dst undef) w) ∨
      (Region.wanted o (yielded ops a.tmps) = true ∧ sqD D o = false ∧ ∃ v, FixAt P C o a v ∧ K (a.put o.dst v) w) ∨
      (Region.wanted o (yielded ops a.tmps) = true ∧ sqD D o = true ∧ stepAt C P o a K w)
theorem mixOpC.mono {i : Nat} {K K' : Act → World → Prop} {a : Act} {w : World} (hw : C w) (h : ∀ a w, C w → K a w → K' a w) (hh : mixOpC D P ops C i K a w) : mixOpC D P ops C i K' a w := by
  unfold mixOpC at *
  cases ho : ops[i]? with
  | none => rw [ho] at hh; exact h _ _ hw hh
  | some o =>
    rw [ho] at hh
    rcases hh with ⟨h1, h2⟩ | ⟨h1, h2, v, h3, h4⟩ | ⟨h1, h2, h3⟩
    · exact .inl ⟨h1, h _ _ hw h2⟩
    · exact .inr (.inl ⟨h1, h2, v, h3, h _ _ hw h4⟩)
    · exact .inr (.inr ⟨h1, h2, h3.mono fun u w' hw' => h _ _ hw'⟩)
theorem mixOpC.out {i : Nat} {K : Act → World → Prop} {a : Act} {w : World} (hw : C w) (h : mixOpC D P ops C i K a w) : ∃ a' w', C w' ∧ K a' w' := by
  unfold mixOpC at h
  cases ho : ops[i]? with
  | none => rw [ho] at h; exact ⟨_, _, hw, h⟩
  | some o =>
    rw [ho] at h
    rcases h with ⟨h1, h2⟩ | ⟨h1, h2, v, h3, h4⟩ | ⟨h1, h2, h3⟩
    · exact ⟨_, _, hw, h2⟩
    · exact ⟨_, _, hw, h4⟩
    · obtain ⟨u, w', h4, h5⟩ := h3.out; exact ⟨_, _, h4, h5⟩

/-- two operations, apart, not both of the kind that changes the world: in either order -/
theorem mixOpC.swap {i j : Nat} {oi oj : Oper} (hi : ops[i]? = some oi) (hj : ops[j]? = some oj) (hap : oi.apart ops oj = true) (hsi : ∀ cs b, oi.op ≠ .select cs b) (hsj : ∀ cs b, oj.op ≠ .select cs b)
    (hns : sqD D oi = true → sqD D oj = false) {K : Act → World → Prop} {a : Act} {w : World} (hw : C w)
    (h : mixOpC D P ops C i (fun a' w' => mixOpC D P ops C j K a' w') a w) : mixOpC D P ops C j (fun a' w' => mixOpC D P ops C i K a' w') a w := by
  obtain ⟨h1, h2, h3⟩ := Oper.apart_spec hap
  have wj : ∀ a u, Region.wanted oj (yielded ops (Act.put a oi.dst u).tmps) = Region.wanted oj (yielded ops a.tmps) := fun a u => wanted_put oj a oi.dst u h1
  have wi : ∀ a u, Region.wanted oi (yielded ops (Act.put a oj.dst u).tmps) = Region.wanted oi (yielded ops a.tmps) := fun a u => wanted_put oi a oj.dst u h3
  have pc : ∀ (a : Act) (v u : Value), (a.put oi.dst v).put oj.dst u = (a.put oj.dst u).put oi.dst v := fun a v u => Act.put_comm a v u h2
  have h2' : ∀ d, oj.dst = some d → oi.dst ≠ some d := fun d hd he => h2 d he hd
  -- what j is, once i has been
  have first : ∀ (v : Value), mixOpC D P ops C j K (a.put oi.dst v) w → (Region.wanted oi (yielded ops a.tmps) = false ∧ v = undef ∨ Region.wanted oi (yielded ops a.tmps) = true ∧ sqD D oi = false ∧ FixAt P C oi a v) →
      mixOpC D P ops C j (fun a' w' => mixOpC D P ops C i K a' w') a w := by
    intro v hk hv
    have fin : ∀ u w', C w' → K ((a.put oi.dst v).put oj.dst u) w' → mixOpC D P ops C i K (a.put oj.dst u) w' := fun u w' _ hK => by
      rw [pc] at hK
      unfold mixOpC
      simp only [hi, wi]
      rcases hv with ⟨hv1, rfl⟩ | ⟨hv1, hv2, hv3⟩
      · exact .inl ⟨hv1, hK⟩
      · exact .inr (.inl ⟨hv1, hv2, v, hv3.put (ops := ops) hsi oj.dst u h3, hK⟩)
    unfold mixOpC at hk
    simp only [hj, wj] at hk
    conv => unfold mixOpC
    simp only [hj]
    rcases hk with ⟨k1, k2⟩ | ⟨k1, k2, u, k3, k4⟩ | ⟨k1, k2, k3⟩
    · exact .inl ⟨k1, fin _ _ hw k2⟩
    · exact .inr (.inl ⟨k1, k2, u, k3.unput (ops := ops) hsj oi.dst v h1, fin _ _ hw k4⟩)
    · refine .inr (.inr ⟨k1, k2, ?_⟩)
      rw [stepAt.put (ops := ops) hsj oi.dst v h1 h2] at k3
      exact k3.mono fun u w' hw' hK => fin u w' hw' (by rw [pc]; exact hK)
  unfold mixOpC at h
  simp only [hi] at h
  rcases h with ⟨k1, k2⟩ | ⟨k1, k2, v, k3, k4⟩ | ⟨k1, k2, k3⟩
  · exact first _ k2 (.inl ⟨k1, rfl⟩)
  · exact first _ k4 (.inr ⟨k1, k2, k3⟩)
  · have hnj := hns k2
    have back : ∀ v, (Region.wanted oj (yielded ops a.tmps) = false ∧ v = undef ∨ Region.wanted oj (yielded ops a.tmps) = true ∧ FixAt P C oj a v) → mixOpC D P ops C i K (a.put oj.dst v) w := by
      intro v hv
      unfold mixOpC
      simp only [hi, wi]
      refine .inr (.inr ⟨k1, k2, ?_⟩)
      rw [stepAt.put (ops := ops) hsi oj.dst v h3 h2']
      refine k3.mono fun u w' hw' hm => ?_
      unfold mixOpC at hm
      simp only [hj, wj] at hm
      rcases hm with ⟨m1, m2⟩ | ⟨m1, m2, v', m3, m4⟩ | ⟨m1, m2, m3⟩
      · rcases hv with ⟨hv1, rfl⟩ | ⟨hv1, _⟩
        · exact m2
        · rw [hv1] at m1; cases m1
      · rcases hv with ⟨hv1, _⟩ | ⟨hv1, hv2⟩
        · rw [hv1] at m1; cases m1
        · rw [hv2.uniq (m3.unput (ops := ops) hsj oi.dst u h1) hw]; exact m4
      · rw [hnj] at m2; cases m2
    obtain ⟨u, w', hw', hm⟩ := k3.out
    simp only [hj, wj] at hm
    conv => unfold mixOpC
    simp only [hj]
    rcases hm with ⟨m1, m2⟩ | ⟨m1, m2, v', m3, m4⟩ | ⟨m1, m2, m3⟩
    · exact .inl ⟨m1, back _ (.inl ⟨m1, rfl⟩)⟩
    · have m3' := m3.unput (ops := ops) hsj oi.dst u h1
      exact .inr (.inl ⟨m1, m2, v', m3', back _ (.inr ⟨m1, m3'⟩)⟩)
    · rw [hnj] at m2; cases m2

/-! ### whatever order is picked -/
def wpAnyC (D : List Nat) (P : Program) (md : Region.Mode) (ops : Array Oper) (C : World → Prop) (R : Act → World → Prop) : Nat → Array Bool → Act → World → Prop
  | 0, listed, a, w => Region.ready md ops listed = [] ∧ R a w
  | f + 1, listed, a, w => (Region.ready md ops listed = [] → R a w) ∧ ∀ i ∈ Region.ready md ops listed, mixOpC D P ops C i (wpAnyC D P md ops C R f (listed.setIfInBounds i true)) a w

theorem wpOp_of_mixC {i : Nat} {K : Act → World → Prop} {K' : Act → World → Prop} {Q : Exit → Act → World → Prop} {a : Act} {w : World} (hw : C w) (h : ∀ a w, C w → K a w → K' a w) (hh : mixOpC D P ops C i K a w) : wpOp P ops Q i K' a w := by
  unfold mixOpC at hh
  unfold wpOp
  cases ho : ops[i]? with
  | none => rw [ho] at hh; exact h _ _ hw hh
  | some o =>
    rw [ho] at hh
    simp only at hh ⊢
    rcases hh with ⟨h1, h2⟩ | ⟨h1, h2, v, h3, h4⟩ | ⟨h1, h2, h3⟩
    · rw [if_neg (by rw [h1]; simp)]; exact h _ _ hw h2
    · rw [if_pos h1]
      refine .inl ?_
      unfold Oper.wp
      rcases h3 w hw with hr | ⟨hr, rfl⟩ <;> rw [hr]
      · exact h _ _ hw h4
      · exact h _ _ hw h4
    · rw [if_pos h1]
      exact .inl (Oper.wp_mono (fun a w hk => h a w hk.1 hk.2) h3.wp)
theorem wpAny_of_mixC {md : Region.Mode} {R : Act → World → Prop} {Q : Exit → Act → World → Prop} (hQ : ∀ a w, C w → R a w → Q .normal a w) : ∀ (f : Nat) (listed : Array Bool) (a : Act) (w : World), C w →
    wpAnyC D P md ops C R f listed a w → wpAny P md ops Q f listed a w
  | 0, _, _, _, hw, h => ⟨h.1, hQ _ _ hw h.2⟩
  | f + 1, _, _, _, hw, h => ⟨fun h0 => hQ _ _ hw (h.1 h0), fun i hi => wpOp_of_mixC hw (fun a' w' hw' => wpAny_of_mixC hQ f _ a' w' hw') (h.2 i hi)⟩

/-- of two operations that change the world the later one waits for the earlier one -/
def seqBC (D : List Nat) (md : Region.Mode) (ops : Array Oper) : Bool :=
  (List.range ops.size).all fun i => match ops[i]? with
    | some oi => !sqD D oi || (List.range ops.size).all fun j => decide (j ≤ i) || match ops[j]? with
      | some oj => !sqD D oj || reach md ops ops.size j i
      | none => true
    | none => true
theorem seqBC_spec {md : Region.Mode} (h : seqBC D md ops = true) {i j : Nat} {oi oj : Oper} (hi : ops[i]? = some oi) (hj : ops[j]? = some oj) (hs : sqD D oi = true) (hs' : sqD D oj = true) (hlt : i < j) : reach md ops ops.size j i = true := by
  have h1 := List.all_eq_true.1 h i (List.mem_range.2 (Array.getElem?_eq_some_iff.1 hi).1)
  simp only [hi, hs, Bool.not_true, Bool.false_or] at h1
  have h2 := List.all_eq_true.1 h1 j (List.mem_range.2 (Array.getElem?_eq_some_iff.1 hj).1)
  simp only [hj, hs', Bool.not_true, Bool.false_or, Bool.or_eq_true, decide_eq_true_eq] at h2
  rcases h2 with h2 | h2
  · omega
  · exact h2

/-- the operation that comes first in the text, of those that have not come up, may be taken first -/
theorem wpAnyC_first {md : Region.Mode} {R : Act → World → Prop} {i : Nat} {oi : Oper} (hi : ops[i]? = some oi) (hsel : ∀ (j : Nat) (o : Oper) cs b, ops[j]? = some o → o.op ≠ .select cs b) (hsq : seqBC D md ops = true) :
    ∀ (f : Nat) (listed : Array Bool) (a : Act) (w : World), C w → Cl md ops listed → (∀ j, j < i → listed.getD j true = true) →
      (∀ j oj, ops[j]? = some oj → j ≠ i → listed.getD j true = false → (∀ e ∈ oj.after, Region.binds md e = true → e.on ≠ i) → oi.apart ops oj = true) →
      i ∈ Region.ready md ops listed → mixOpC D P ops C i (wpAnyC D P md ops C R f (listed.setIfInBounds i true)) a w → wpAnyC D P md ops C R (f + 1) listed a w := by
  intro f
  induction f with
  | zero =>
    intro listed a w hw _ _ _ hr H
    refine ⟨fun h => (by rw [h] at hr; cases hr), fun j hj => ?_⟩
    by_cases hji : j = i
    · subst hji; exact H
    · obtain ⟨a', w', _, h0⟩ := H.out hw
      have := ready_mono hj hji
      rw [h0.1] at this
      cases this
  | succ f ih =>
    intro listed a w hw hcl hbelow hfree hr H
    refine ⟨fun h => (by rw [h] at hr; cases hr), fun j hj => ?_⟩
    by_cases hji : j = i
    · subst hji; exact H
    · obtain ⟨hjun, oj, hoj, hall⟩ := mem_ready.1 hj
      have hiun := (mem_ready.1 hr).1
      have hilt : i < listed.size := by
        rcases Nat.lt_or_ge i listed.size with h' | h'
        · exact h'
        · simp [Array.getElem?_eq_none h'] at hiun
      have hiunf : listed.getD i false = false := by simp [hilt] at hiun ⊢; exact hiun
      have hnot : ∀ e ∈ oj.after, Region.binds md e = true → e.on ≠ i := fun e he hb heq => by
        have h1 := hall e he hb
        rw [heq, hiunf] at h1; cases h1
      have hij : i < j := by
        rcases Nat.lt_or_ge i j with h' | h'
        · exact h'
        · have := hbelow j (by omega); rw [hjun] at this; cases this
      have hap := hfree j oj hoj hji hjun hnot
      have hns : sqD D oi = true → sqD D oj = false := fun hs => by
        cases hs' : sqD D oj with
        | false => rfl
        | true =>
          have := ready_reach hcl hj hji (seqBC_spec hsq hi hoj hs hs' hij)
          rw [hiunf] at this; cases this
      have h2 : mixOpC D P ops C i (fun a' w' => mixOpC D P ops C j (wpAnyC D P md ops C R f ((listed.setIfInBounds i true).setIfInBounds j true)) a' w') a w :=
        H.mono hw fun a' w' _ hx => hx.2 j (ready_mono hj hji)
      have h3 := mixOpC.swap hi hoj hap (fun cs b => hsel i oi cs b hi) (fun cs b => hsel j oj cs b hoj) hns hw h2
      refine h3.mono hw fun a' w' hw' h4 => ih (listed.setIfInBounds j true) a' w' hw' (hcl.set hj) ?_ ?_ (ready_mono hr (Ne.symm hji)) ?_
      · intro k hk
        exact getD_set_true' (hbelow k hk)
      · intro k ok hk hki hun hno
        refine hfree k ok hk hki ?_ hno
        by_cases hjk : j = k
        · subst hjk; exact hjun
        · rw [getD_set_ne true hjk] at hun; exact hun
      · rw [Array.setIfInBounds_comm _ _ hji]
        exact h4

/-- the walk in the text's order -/
def wpMixC (D : List Nat) (P : Program) (ops : Array Oper) (C : World → Prop) (R : Act → World → Prop) : List Oper → Act → World → Prop
  | [], a, w => R a w
  | o :: rest, a, w => (Region.wanted o (yielded ops a.tmps) = false ∧ wpMixC D P ops C R rest (a.put o.dst undef) w) ∨
      (Region.wanted o (yielded ops a.tmps) = true ∧ sqD D o = false ∧ ∃ v, FixAt P C o a v ∧ wpMixC D P ops C R rest (a.put o.dst v) w) ∨
      (Region.wanted o (yielded ops a.tmps) = true ∧ sqD D o = true ∧ stepAt C P o a (wpMixC D P ops C R rest) w)

theorem wpAnyC_lex {md : Region.Mode} {R : Act → World → Prop} (hs : Region.noSelect ops = true) (hsq : seqBC D md ops = true) : ∀ (l : List Oper) (k : Nat) (listed : Array Bool) (a : Act) (w : World), (∀ j, l[j]? = ops[k + j]?) → C w → Cl md ops listed →
    (∀ j, j < k → listed.getD j true = true) → Region.lexFrom md ops l.length k listed = true → wpMixC D P ops C R l a w → wpAnyC D P md ops C R l.length listed a w
  | [], _, _, _, _, _, _, _, _, hB, h => ⟨by simpa [Region.lexFrom] using hB, h⟩
  | o :: l, k, listed, a, w, hl, hw, hcl, hbl, hB, h => by
    have h0 : ops[k]? = some o := by simpa using (hl 0).symm
    simp only [List.length_cons, Region.lexFrom, Bool.and_eq_true] at hB
    obtain ⟨⟨hr, hf⟩, hB'⟩ := hB
    have hr' : k ∈ Region.ready md ops listed := by simpa using hr
    have hm : mixOpC D P ops C k (wpMixC D P ops C R l) a w := by unfold mixOpC; simp only [h0]; exact h
    refine wpAnyC_first h0 (Region.noSelect_spec hs) hsq l.length listed a w hw hcl hbl (Region.free_spec h0 hf) hr' (hm.mono hw fun a' w' hw' hx => ?_)
    refine wpAnyC_lex hs hsq l (k + 1) _ a' w' (fun j => by have := hl (j + 1); simpa [Nat.add_assoc, Nat.add_comm 1 j] using this) hw' (hcl.set hr') (fun j hj => ?_) hB' hx
    by_cases hjk : j = k
    · subst hjk
      have hlt : j < listed.size := by
        rcases Nat.lt_or_ge j listed.size with h' | h'
        · exact h'
        · have := (mem_ready.1 hr').1; simp [Array.getElem?_eq_none h'] at this
      simp [hlt]
    · exact getD_set_true' (hbl j (by omega))

theorem wp_region_mixC {id : Nat} {Q : Exit → Act → World → Prop} {a : Act} {w : World} (hm : P.follows .mixedOrders = true) (hB : Region.lexB .any ops = true) (hS : seqBC D .any ops = true) (hC : C { w with drawn := w.drawn + 1 })
    (h : wpMixC D P ops C (fun a' w' => C w' → Q .normal a' w') ops.toList a { w with drawn := w.drawn + 1 }) : (Code.region id ops true).wp P Q a w := by
  simp only [Region.lexB, Bool.and_eq_true] at hB
  refine wp_region_any hm (wpAny_of_mixC (D := D) (R := fun a' w' => C w' → Q .normal a' w') (fun a' w' hw' h => h hw') _ _ _ _ hC ?_)
  have := wpAnyC_lex (C := C) (md := .any) (R := fun a' w' => C w' → Q .normal a' w') hB.1 hS ops.toList 0 (Array.replicate ops.size false) a _ (by simp) hC (fun j oj _ hl => by rw [getD_replicate_false] at hl; cases hl) (fun j hj => by omega) (by simpa using hB.2) h
  simpa using this

/-- in the worlds that go on from the region's start -/
theorem wp_region_upC {id : Nat} {Q : Exit → Act → World → Prop} {a : Act} {w : World} {l : List Oper} (hm : P.follows .mixedOrders = true) (hB : Region.lexB .any l.toArray = true) (hS : seqBC D .any l.toArray = true)
    (h : wpMixC D P l.toArray (fun w' => ∃ x, w' = w.drew.up x) (fun a' w' => Q .normal a' w') l a w.drew) : (Code.region id l.toArray true).wp P Q a w := by
  refine wp_region_mixC (C := fun w' => ∃ x, w' = w.drew.up x) hm hB hS (up_of (Ext.refl _)) ?_
  have mono : ∀ (l' : List Oper) (a : Act) (w' : World), wpMixC D P l.toArray (fun w' => ∃ x, w' = w.drew.up x) (fun a' w' => Q .normal a' w') l' a w' → wpMixC D P l.toArray (fun w' => ∃ x, w' = w.drew.up x) (fun a' w' => (∃ x, w' = w.drew.up x) → Q .normal a' w') l' a w' := by
    intro l'
    induction l' with
    | nil => intro a w' h _; exact h
    | cons o rest ih =>
      intro a w' h
      rcases h with ⟨h1, h2⟩ | ⟨h1, h2, v, h3, h4⟩ | ⟨h1, h2, h3⟩
      · exact .inl ⟨h1, ih _ _ h2⟩
      · exact .inr (.inl ⟨h1, h2, v, h3, ih _ _ h4⟩)
      · exact .inr (.inr ⟨h1, h2, h3.mono fun u w' _ => ih _ _⟩)
  exact mono _ _ _ h

/-- in the worlds that go on from an earlier one: what the call itself has made since may change -/
theorem wp_region_fromC {id : Nat} {Q : Exit → Act → World → Prop} {a : Act} {w : World} {l : List Oper} (w0 : World) (h0 : Ext w0 w) (hm : P.follows .mixedOrders = true) (hB : Region.lexB .any l.toArray = true) (hS : seqBC D .any l.toArray = true)
    (h : wpMixC D P l.toArray (fun w' => ∃ x, w' = w0.up x) (fun a' w' => Q .normal a' w') l a w.drew) : (Code.region id l.toArray true).wp P Q a w := by
  refine wp_region_mixC (C := fun w' => ∃ x, w' = w0.up x) hm hB hS (up_of h0.drew) ?_
  have mono : ∀ (l' : List Oper) (a : Act) (w' : World), wpMixC D P l.toArray (fun w' => ∃ x, w' = w0.up x) (fun a' w' => Q .normal a' w') l' a w' → wpMixC D P l.toArray (fun w' => ∃ x, w' = w0.up x) (fun a' w' => (∃ x, w' = w0.up x) → Q .normal a' w') l' a w' := by
    intro l'
    induction l' with
    | nil => intro a w' h _; exact h
    | cons o rest ih =>
      intro a w' h
      rcases h with ⟨h1, h2⟩ | ⟨h1, h2, v, h3, h4⟩ | ⟨h1, h2, h3⟩
      · exact .inl ⟨h1, ih _ _ h2⟩
      · exact .inr (.inl ⟨h1, h2, v, h3, ih _ _ h4⟩)
      · exact .inr (.inr ⟨h1, h2, h3.mono fun u w' _ => ih _ _⟩)
  exact mono _ _ _ h

theorem mixc_nil {R : Act → World → Prop} {a : Act} {w : World} (h : R a w) : wpMixC D P ops C R [] a w := h
/-- an operation that only gives a value, by the walk of quiet regions -/
theorem mixc_q {R : Act → World → Prop} {a : Act} {w : World} {o : Oper} {rest : List Oper} (hs : sqD D o = false) (h : wpQuiet P ops C (fun a' => wpMixC D P ops C R rest a' w) [o] a) : wpMixC D P ops C R (o :: rest) a w := by
  unfold wpQuiet at h
  split at h
  · rename_i hw
    obtain ⟨v, h1, h2⟩ := fix_of_quiet (sqD_no hs) h
    exact .inr (.inl ⟨hw, hs, v, h1, h2⟩)
  · rename_i hw
    exact .inl ⟨by simpa using hw, h⟩
/-- a call, a new block: by the walk of plain regions -/
theorem mixc_s {R : Act → World → Prop} {a : Act} {w : World} {o : Oper} {rest : List Oper} (hs : sqD D o = true)
    (h : wpList P ops (fun e a' w' => e = .normal ∧ a'.defers = a.defers ∧ C w' ∧ wpMixC D P ops C R rest a' w') [o] a w) : wpMixC D P ops C R (o :: rest) a w := by
  unfold wpList at h
  have hq : ∀ (e : Exit) (a' : Act) (w' : World), e ≠ .normal → ¬ (e = .normal ∧ a'.defers = a.defers ∧ C w' ∧ wpMixC D P ops C R rest a' w') := fun e _ _ h h' => h h'.1
  split at h
  · rename_i hw
    rcases h with h | ⟨_, _, _, h⟩
    · refine .inr (.inr ⟨hw, hs, step_of_wp hq ?_⟩)
      exact Oper.wp_mono (fun a' w' hk => hk.2) h
    · exact (hq _ _ _ (by simp) h).elim
  · rename_i hw
    unfold wpList at h
    exact .inl ⟨by simpa using hw, h.2.2.2⟩
attribute [irreducible] wpMixC
end
end Go.Proofs.Ytccoopnoakhedaa

/- A quicker test that of two operations that change the world the later one waits for the earlier one: what each one waits for, as one number of bits. Conditions: none; nothing here speaks of a program's text. -/
namespace Go.Proofs.Ytccoopnoakhedaa
set_option maxRecDepth 100000
open Go.RowKit

/-- what operation i waits for, of the first k -/
def lookM (acc : List Nat) (k i : Nat) : Nat := if i < k then acc.getD (k - 1 - i) 0 else 0
def mask1 (md : Region.Mode) (acc : List Nat) (k : Nat) (o : Oper) : Nat := o.after.toList.foldl (fun s e => if Region.binds md e then s ||| lookM acc k e.on else s) (2 ^ k)
def masks (md : Region.Mode) : List Oper → Nat → List Nat → List Nat
  | [], _, acc => acc
  | o :: rest, k, acc => masks md rest (k + 1) (mask1 md acc k o :: acc)
def seq2B (md : Region.Mode) (ops : Array Oper) : Bool :=
  (List.range ops.size).all fun i => match ops[i]? with
    | some oi => !seqOp oi.op || (List.range ops.size).all fun j => decide (j ≤ i) || match ops[j]? with
      | some oj => !seqOp oj.op || (lookM (masks md ops.toList 0 []) ops.size j).testBit i
      | none => true
    | none => true
theorem foldl_bit {α : Type} (f : α → Nat) (c : α → Bool) (i : Nat) : ∀ (l : List α) (s : Nat), (l.foldl (fun s e => if c e then s ||| f e else s) s).testBit i = true → s.testBit i = true ∨ ∃ e ∈ l, c e = true ∧ (f e).testBit i = true
  | [], s, h => .inl h
  | e :: l, s, h => by
    rw [List.foldl_cons] at h
    rcases foldl_bit f c i l _ h with h1 | ⟨e', he, h1⟩
    · by_cases hc : c e = true
      · rw [if_pos hc, Nat.testBit_or, Bool.or_eq_true] at h1
        rcases h1 with h1 | h1
        · exact .inl h1
        · exact .inr ⟨e, List.mem_cons_self .., hc, h1⟩
      · rw [if_neg hc] at h1; exact .inl h1
    · exact .inr ⟨e', List.mem_cons_of_mem _ he, h1⟩
def Sound (md : Region.Mode) (ops : Array Oper) (k : Nat) (acc : List Nat) : Prop := acc.length = k ∧ ∀ j i, (lookM acc k j).testBit i = true → ∀ f, j ≤ f → reach md ops f j i = true
theorem look_cons (m : Nat) (acc : List Nat) (k i : Nat) : lookM (m :: acc) (k + 1) i = if i = k then m else lookM acc k i := by
  unfold lookM
  by_cases h : i = k
  · subst h; rw [if_pos (by omega), if_pos rfl]; simp
  · rw [if_neg h]
    by_cases h2 : i < k
    · rw [if_pos (by omega), if_pos h2, show k + 1 - 1 - i = (k - 1 - i) + 1 by omega, List.getD_cons_succ]
    · rw [if_neg (by omega), if_neg h2]
theorem Sound.step {md : Region.Mode} {ops : Array Oper} {k : Nat} {acc : List Nat} {o : Oper} (h : Sound md ops k acc) (ho : ops[k]? = some o) : Sound md ops (k + 1) (mask1 md acc k o :: acc) := by
  refine ⟨by simp [h.1], fun j i hb f hf => ?_⟩
  rw [look_cons] at hb
  by_cases hj : j = k
  · subst hj
    rw [if_pos rfl] at hb
    unfold mask1 at hb
    rcases foldl_bit _ _ i _ _ hb with h1 | ⟨e, he, hc, h1⟩
    · rw [Nat.testBit_two_pow] at h1
      have h2 : j = i := by simpa using h1
      subst h2
      cases f <;> simp [reach]
    · have hlt : e.on < j := by
        rcases Nat.lt_or_ge e.on j with h2 | h2
        · exact h2
        · unfold lookM at h1; rw [if_neg (by omega)] at h1; simp at h1
      obtain ⟨f', rfl⟩ : ∃ f', f = f' + 1 := ⟨f - 1, by omega⟩
      have h2 := h.2 e.on i h1 f' (by omega)
      simp only [reach, ho, Bool.or_eq_true]
      right
      rw [Array.any_eq_true']
      exact ⟨e, by simpa using he, by rw [hc, h2]; rfl⟩
  · rw [if_neg hj] at hb
    exact h.2 j i hb f hf
theorem Sound.all {md : Region.Mode} {ops : Array Oper} : ∀ (rest pre : List Oper) (acc : List Nat), ops.toList = pre ++ rest → Sound md ops pre.length acc → Sound md ops ops.size (masks md rest pre.length acc)
  | [], pre, acc, h, hs => by
    have : ops.size = pre.length := by rw [← Array.length_toList, h]; simp
    rw [this]; exact hs
  | o :: rest, pre, acc, h, hs => by
    have ho : ops[pre.length]? = some o := by rw [← Array.getElem?_toList, h]; simp
    have := Sound.all rest (pre ++ [o]) (mask1 md acc pre.length o :: acc) (by rw [h]; simp) (by rw [List.length_append]; exact hs.step ho)
    rw [List.length_append] at this
    exact this
theorem seqB_of {md : Region.Mode} {ops : Array Oper} (h : seq2B md ops = true) : seqB md ops = true := by
  have hs : Sound md ops ops.size (masks md ops.toList 0 []) := Sound.all ops.toList [] [] rfl ⟨rfl, fun j i hb => by simp [lookM] at hb⟩
  unfold seq2B at h
  unfold seqB
  rw [List.all_eq_true] at h ⊢
  intro i hi
  have h1 := h i hi
  have hin := List.mem_range.1 hi
  rw [Array.getElem?_eq_getElem hin] at h1 ⊢
  simp only [Bool.or_eq_true] at h1 ⊢
  rcases h1 with h1 | h1
  · exact .inl h1
  · right
    rw [List.all_eq_true] at h1 ⊢
    intro j hj
    have h2 := h1 j hj
    have hjn := List.mem_range.1 hj
    rw [Array.getElem?_eq_getElem hjn] at h2 ⊢
    simp only [Bool.or_eq_true] at h2 ⊢
    rcases h2 with h2 | h2 | h2
    · exact .inl h2
    · exact .inr (.inl h2)
    · exact .inr (.inr (hs.2 j i h2 ops.size (by omega)))
end Go.Proofs.Ytccoopnoakhedaa

/- A region that draws its order, the last operation apart (a store), in the worlds that go on from an earlier one. Conditions: none; nothing here speaks of a program's text. -/
namespace Go.Proofs.Ytccoopnoakhedaa
set_option maxRecDepth 100000
open Go.RowKit

def last2B (md : Region.Mode) (ops : Array Oper) (n : Nat) : Bool := decide (ops.size = n + 1) && (List.range n).all fun i => (lookM (masks md ops.toList 0 []) ops.size n).testBit i
theorem lastB_of {md : Region.Mode} {ops : Array Oper} {n : Nat} (h : last2B md ops n = true) : lastB md ops n = true := by
  have hs : Sound md ops ops.size (masks md ops.toList 0 []) := Sound.all ops.toList [] [] rfl ⟨rfl, fun j i hb => by simp [lookM] at hb⟩
  unfold last2B at h
  unfold lastB
  simp only [Bool.and_eq_true, decide_eq_true_eq, List.all_eq_true] at h ⊢
  exact ⟨h.1, fun i hi => hs.2 n i (h.2 i hi) ops.size (by omega)⟩
theorem wp_region_upl {P : Program} {id : Nat} {Q : Exit → Act → World → Prop} {a : Act} {w : World} {l : List Oper} (n : Nat) (w0 : World) (h0 : Ext w0 w) (hn : l.length = n + 1) (hm : P.follows .mixedOrders = true) (hB : Region.lexB .any l.toArray = true) (hS : seqB .any l.toArray = true) (hT : lastB .any l.toArray n = true)
    (h : wpMix P l.toArray (fun w' => ∃ x, w' = w0.up x) (fun a' w' => wpList P l.toArray Q (l.drop n) a' w') (l.take n) a w.drew) : (Code.region id l.toArray true).wp P Q a w := by
  have hd : l.drop n = [l[n]] := by
    rw [List.drop_eq_getElem_cons (by omega), List.drop_eq_nil_of_le (by omega)]
  have hl : l = l.take n ++ [l[n]] := by rw [← hd, List.take_append_drop]
  have hln : (l.take n).length = n := by simp; omega
  rw [hd] at h
  generalize l.take n = l1 at *
  generalize l[n] = o at *
  subst hl
  subst hln
  exact wp_region_last hm hB hS hT (up_of h0.drew) h
end Go.Proofs.Ytccoopnoakhedaa
