/- Walks: NewRegistry, on both sides. -/
import Derived.Test.YthbdnkokklahcaaGreatRgV
import Derived.Test.YthbdnkokklahcaaGreatClR
import Derived.Test.YthbdnkokklahcaaGreatLMk
import Derived.Test.YthbdnkokklahcaaGreatTrial
namespace Go.Proofs.YthbdnkokklahcaaGreat
set_option maxRecDepth 100000
open Go.RowKit

/-- the empty registry -/
def zeroR : Rg := ⟨⟨0, 0, 0, 0, [], []⟩, 0, [], []⟩
def newR (D : Ch) (ap : Int) : Rg := ⟨D, ap, [], []⟩
def newOk (D : Ch) (ap : Int) : Bool := validRg (newR D ap)
def newRes (D : Ch) (ap : Int) : Rg := if newOk D ap then newR D ap else zeroR
/-- the registry as long as the blocks from lo to hi are as they were at w -/
def RgK (lo hi : Nat) (w : World) (D : Rg) (a : Option Addr) (n c : Nat) (b : Option Addr) (m d : Nat) (ia : Option Addr) (im ic : Nat) (ra : Option Addr) (rm rc : Nat) : Prop := ∀ W, KeepB lo hi w W → RgIn W D a n c b m d ia im ic ra rm rc
/-- a registry and a bool: the reference's -/
def RetRgK (D : Rg) (ok : Bool) (w : World) (e : Ending) (w' : World) : Prop :=
  ∃ a n c b m d ia im ic ra rm rc, e = .returned (.tuple #[.agg #[.int .i64 D.ch.base, .int .i64 D.ch.states, .int .i64 D.ch.start, .int .i64 D.ch.fin, .slice a n c, .slice b m d, .int .i64 D.apart, .slice ia im ic, .slice ra rm rc], .bool ok]) ∧ RgK w.heap.size w'.heap.size w' D a n c b m d ia im ic ra rm rc ∧ Ext w w'
/-- the program's: of its own -/
def RetRgO (D : Rg) (ok : Bool) (w : World) (e : Ending) (w' : World) : Prop :=
  ∃ a n c b m d ia im ic ra rm rc, e = .returned (.tuple #[.agg #[.int .i64 D.ch.base, .int .i64 D.ch.states, .int .i64 D.ch.start, .int .i64 D.ch.fin, .slice a n c, .slice b m d, .int .i64 D.apart, .slice ia im ic, .slice ra rm rc], .bool ok]) ∧ RgR w' w.heap.size w'.heap.size D a n c b m d ia im ic ra rm rc ∧ RgSz D n m im rm ∧ Ext w w'
theorem sl_nil (w : World) (c : Nat) : Sl w none 0 c [] := ⟨rfl, Nat.zero_le _, fun h => by omega⟩
theorem zero_in (w : World) : RgIn w zeroR none 0 0 none 0 0 none 0 0 none 0 0 :=
  ⟨⟨⟨rfl, [], sl_nil _ _, fun k h => by omega⟩, sl_nil _ _, by omega, by omega, fun t h => (by cases h)⟩, sl_nil _ _, sl_nil _ _, by omega, by omega, fun s h => (by cases h)⟩
theorem own_none (w : World) (lo hi : Nat) (E : TypeId) : OwnIn w lo hi E none 0 0 [] := ⟨Own.nil _ _ _, fun g h => (by cases h)⟩
theorem zero_r (w : World) (lo hi : Nat) (h : lo ≤ hi) : RgR w lo hi zeroR none 0 0 none 0 0 none 0 0 none 0 0 :=
  RgR.row h (Nat.le_refl hi) (Nat.le_refl hi) ⟨hi, h, Nat.le_refl _, ⟨[], fun _ => 0, fun _ => 0, rfl, Own.nil _ _ _, fun g h => (by cases h), fun g h => (by cases h), fun k h => by omega, fun j k _ h => by omega⟩, own_none _ _ _ _⟩ (own_none _ _ _ _) (own_none _ _ _ _)
theorem zero_sz : RgSz zeroR 0 0 0 0 := ⟨by omega, by omega, fun t h => (by cases h), by omega, by omega, fun s h => (by cases h)⟩
theorem new_no {D : Ch} {ap : Int} (h : newOk D ap = false) : newRes D ap = zeroR := by rw [newRes, h]; rfl
theorem new_yes {D : Ch} {ap : Int} (h : newOk D ap = true) : newRes D ap = newR D ap := by rw [newRes, h]; rfl
end Go.Proofs.YthbdnkokklahcaaGreat

/- Plain: words that are issued one after another. -/
namespace Go.Proofs.YthbdnkokklahcaaGreat
set_option maxRecDepth 100000
open Go.RowKit

theorem cost_self : ∀ l : List UInt8, costS l l = 0
  | [] => by rw [cost_nil]; rfl
  | x :: xs => by rw [costS, cost_self xs]; simp
theorem dist_self (s : ByteArray) : distS s s = 0 := by
  unfold distS cst; exact cost_self _
/-- a registry with one word more -/
def issR (D : Rg) (s : ByteArray) : Rg := { D with issued := D.issued ++ [s] }
def addL (D : Rg) (L : List ByteArray) : Rg := { D with issued := D.issued ++ L }
theorem addL_nil (D : Rg) : addL D [] = D := by cases D; simp [addL]
theorem addL_snoc (D : Rg) (L : List ByteArray) (s : ByteArray) : issR (addL D L) s = addL D (L ++ [s]) := by simp [issR, addL]
theorem free_snoc {D : Rg} {L : List ByteArray} {s u : ByteArray} : freeB (addL D (L ++ [u])) s = (freeB (addL D L) s && !decide ((distS s u : Int) < D.apart)) := by
  rw [← addL_snoc]; unfold freeB issR addL; simp [List.all_append, Bool.and_assoc]
theorem NoFree.snoc {D : Rg} {L : List ByteArray} {k : Nat} {u : ByteArray} (h : NoFree (addL D L) k) : NoFree (addL D (L ++ [u])) k := fun j hj => by
  have h1 : freeB (addL D L) (wordR D.ch (j + 1)) = false := h j hj
  show freeB (addL D (L ++ [u])) (wordR D.ch (j + 1)) = false
  rw [free_snoc, h1]; rfl
theorem free_self {D : Rg} {L : List ByteArray} {u : ByteArray} (ha : 1 ≤ D.apart) : freeB (addL D (L ++ [u])) u = false := by
  rw [free_snoc, dist_self, show decide (((0 : Nat) : Int) < D.apart) = true from decide_eq_true (by omega)]; simp
/-- what is issued after k trials, if at most cnt words are wanted -/
def scanL (D : Rg) (cnt : Nat) : Nat → List ByteArray
  | 0 => []
  | k + 1 => if (decide ((scanL D cnt k).length < cnt) && freeB (addL D (scanL D cnt k)) (wordR D.ch (k + 1))) = true then scanL D cnt k ++ [wordR D.ch (k + 1)] else scanL D cnt k
/-- the first k words, if there are so many -/
def manyL (D : Rg) : Nat → Option (List ByteArray)
  | 0 => some []
  | k + 1 => match manyL D k with
    | none => none
    | some L => match trialO (addL D L) with
      | none => none
      | some s => some (L ++ [s])
theorem scan_inv {D : Rg} (ha : 1 ≤ D.apart) (cnt : Nat) : ∀ k, k ≤ triesN D.ch → manyL D (scanL D cnt k).length = some (scanL D cnt k) ∧ (scanL D cnt k).length ≤ cnt ∧ ((scanL D cnt k).length < cnt → NoFree (addL D (scanL D cnt k)) k)
  | 0, _ => ⟨rfl, Nat.zero_le _, fun _ j hj => by omega⟩
  | k + 1, hk => by
    obtain ⟨h1, h2, h3⟩ := scan_inv ha cnt k (by omega)
    rw [scanL]
    generalize scanL D cnt k = L at *
    split
    · rename_i h
      simp only [Bool.and_eq_true, decide_eq_true_eq] at h
      have ht : trialO (addL D L) = some (wordR D.ch (k + 1)) := trial_some (R := addL D L) (k := k) hk (h3 h.1) h.2
      refine ⟨?_, by rw [List.length_append]; simp; omega, fun _ j hj => ?_⟩
      · rw [List.length_append]
        show manyL D (L.length + 1) = _
        rw [manyL, h1]
        simp only [ht]
      · rcases Nat.lt_or_ge j k with e | e
        · exact (h3 h.1).snoc j e
        · obtain rfl : j = k := by omega
          exact free_self ha
    · rename_i h
      refine ⟨h1, h2, fun h4 => (h3 h4).step ?_⟩
      show freeB (addL D L) (wordR D.ch (k + 1)) = false
      simpa [h4] using h
theorem many_none {D : Rg} {k j : Nat} (h : manyL D k = none) (hj : k ≤ j) : manyL D j = none := by
  induction j with
  | zero => obtain rfl : k = 0 := by omega
            exact h
  | succ j ih =>
    by_cases e : k = j + 1
    · subst e; exact h
    · rw [manyL, ih (by omega)]
theorem scan_yes {D : Rg} (ha : 1 ≤ D.apart) {cnt k : Nat} (hk : k ≤ triesN D.ch) (h : ¬ (scanL D cnt k).length < cnt) : manyL D cnt = some (scanL D cnt k) := by
  obtain ⟨h1, h2, _⟩ := scan_inv ha cnt k hk
  rwa [show (scanL D cnt k).length = cnt by omega] at h1
theorem scan_no {D : Rg} (ha : 1 ≤ D.apart) {cnt : Nat} (h : (scanL D cnt (triesN D.ch)).length < cnt) : manyL D cnt = none := by
  obtain ⟨h1, _, h3⟩ := scan_inv ha cnt _ (Nat.le_refl _)
  refine many_none (k := (scanL D cnt (triesN D.ch)).length + 1) ?_ h
  rw [manyL, h1]
  have ht : trialO (addL D (scanL D cnt (triesN D.ch))) = none := trial_none (h3 h)
  simp only [ht]
theorem many_len {D : Rg} : ∀ {k : Nat} {L : List ByteArray}, manyL D k = some L → L.length = k
  | 0, L, h => by cases h; rfl
  | k + 1, L, h => by
    rw [manyL] at h
    cases h1 : manyL D k with
    | none => rw [h1] at h; cases h
    | some L' =>
      rw [h1] at h
      simp only at h
      cases h2 : trialO (addL D L') with
      | none => rw [h2] at h; cases h
      | some s => rw [h2] at h; cases h; rw [List.length_append, many_len h1]; rfl

theorem gs_app_l {l : List ByteArray} {s : ByteArray} {i : Nat} (h : i < l.length) : gs (l ++ [s]) i = gs l i := by
  simp [gs, List.getD_eq_getElem?_getD, List.getElem?_append_left h]
theorem gs_app_r (l : List ByteArray) (s : ByteArray) : gs (l ++ [s]) l.length = s := by simp [gs, List.getD_eq_getElem?_getD]
theorem wordR_chk {D : Ch} (hok : OkCh D) (hv : validCh D = true) {k : Nat} (h : k < (wordsA D).length) : chkB D (wordR D (k + 1)) = true := by
  obtain ⟨h1, h2, h3⟩ := (mem_words (by have := hok.b2; omega) _ _ _ _).1 (getD_mem' (l := wordsA D) (d := []) (k := k) h)
  have h36 := dig36_of hok.b36 h2
  have hc : digC (wordR D (k + 1)) = (wordsA D).getD k [] := digC_text h36
  have hs := wordR_len hok h
  have hp := hok.p20
  unfold chkB runOk wordCh wordB
  simp only [Bool.and_eq_true, List.all_eq_true, decide_eq_true_eq]
  refine ⟨⟨hv, ⟨fun x hx => ?_, ?_, ?_⟩, hs⟩, ?_⟩
  · have : dig x ∈ digC (wordR D (k + 1)) := List.mem_map.2 ⟨x, hx, rfl⟩
    rw [hc] at this
    have := h2 _ this
    exact inB_t.2 ⟨this.1, by omega⟩
  · exact inB_t.2 ⟨hok.b2, hok.b36⟩
  · have h9 := ba_len (wordR D (k + 1)); omega
  · unfold runEnd; rw [hc]; exact h3
theorem trial_ok {R : Rg} (hok : OkCh R.ch) (hv : validCh R.ch = true) {s : ByteArray} (h : trialO R = some s) : chkB R.ch s = true ∧ freeB R s = true := by
  unfold trialO at h
  refine ⟨?_, List.find?_some h⟩
  obtain ⟨k, hk, rfl⟩ := List.mem_map.1 (List.mem_of_find?_eq_some h)
  exact wordR_chk hok hv (Nat.lt_of_lt_of_le (List.mem_range.1 hk) (tries_le _))
theorem OkRg.issue {D : Rg} {s : ByteArray} (h : OkRg D) (hc : chkB D.ch s = true) (hf : freeB D s = true) (hn : D.issued.length < 40) : OkRg (issR D s) := by
  have hl : (issR D s).issued.length = D.issued.length + 1 := by simp [issR]
  have hg : ∀ i, i < D.issued.length → gs (issR D s).issued i = gs D.issued i := fun i hi => gs_app_l hi
  have hg2 : gs (issR D s).issued D.issued.length = s := gs_app_r _ _
  have hz := chk_size hc
  have hcase : ∀ i, i < (issR D s).issued.length → i < D.issued.length ∨ i = D.issued.length := fun i hi => by omega
  refine ⟨h.ch, h.vc, h.a1, h.a6, by omega, fun i hi => ?_, fun i hi => ?_, fun i hi => ?_, fun i k hk hi => ?_, fun k hk => ?_, h.up⟩
  · rcases hcase i hi with e | rfl
    · rw [hg i e]; exact h.chk i e
    · rw [hg2]; exact hc
  · rcases hcase i hi with e | rfl
    · rw [hg i e]; exact h.size i e
    · rw [hg2]; exact hz.1
  · rcases hcase i hi with e | rfl
    · rw [hg i e]; exact h.s20 i e
    · rw [hg2]; exact hz.2
  · rcases hcase i hi with e | rfl
    · have := h.far i k hk e
      unfold farR at this ⊢
      rw [hg i e, hg k (by omega)]; exact this
    · unfold farR
      rw [hg2, hg k hk]
      exact List.all_eq_true.1 hf _ (gs_mem hk)
  · have := h.rev k hk
    exact ⟨this.1, by rw [hl]; have : gi (issR D s).revoked k < D.issued.length := this.2; omega⟩
theorem many_ok {D : Rg} (h : OkRg D) : ∀ {k : Nat} {L : List ByteArray}, D.issued.length + k ≤ 40 → manyL D k = some L → OkRg (addL D L)
  | 0, L, _, e => by cases e; rw [addL_nil]; exact h
  | k + 1, L, hk, e => by
    rw [manyL] at e
    cases h1 : manyL D k with
    | none => rw [h1] at e; cases e
    | some L' =>
      rw [h1] at e
      simp only at e
      have ho := many_ok h (by omega) h1
      cases h2 : trialO (addL D L') with
      | none => rw [h2] at e; cases e
      | some s =>
        rw [h2] at e; cases e
        have ht := trial_ok ho.ch ho.vc h2
        rw [← addL_snoc]
        refine ho.issue ht.1 ht.2 ?_
        have := many_len h1
        simp [addL]; omega
/-- what may be asked for -/
def manyIn (D : Rg) (x : Int) : Bool := validRg D && (inB x 0 40 && decide ((D.issued.length : Int) + x ≤ 40))
def manyOk (D : Rg) (x : Int) : Bool := manyIn D x && (manyL D x.toNat).isSome
def manyT (D : Rg) (x : Int) : List ByteArray := if manyOk D x then (manyL D x.toNat).getD [] else []
def manyRg (D : Rg) (x : Int) : Rg := if manyOk D x then addL D ((manyL D x.toNat).getD []) else zeroR
theorem many_r0 {D : Rg} {x : Int} (h : manyOk D x = false) : manyRg D x = zeroR := by rw [manyRg, h]; rfl
theorem many_t0 {D : Rg} {x : Int} (h : manyOk D x = false) : manyT D x = [] := by rw [manyT, h]; rfl
theorem many_r1 {D : Rg} {x : Int} {L : List ByteArray} (h : manyOk D x = true) (hl : manyL D x.toNat = some L) : manyRg D x = addL D L := by rw [manyRg, h, hl]; rfl
theorem many_t1 {D : Rg} {x : Int} {L : List ByteArray} (h : manyOk D x = true) (hl : manyL D x.toNat = some L) : manyT D x = L := by rw [manyT, h, hl]; rfl
theorem many_in0 {D : Rg} {x : Int} (h : manyIn D x = false) : manyOk D x = false := by rw [manyOk, h]; rfl
theorem many_no {D : Rg} {x : Int} (h : manyL D x.toNat = none) : manyOk D x = false := by rw [manyOk, h]; simp
theorem many_yes {D : Rg} {x : Int} {L : List ByteArray} (h : manyIn D x = true) (hl : manyL D x.toNat = some L) : manyOk D x = true := by rw [manyOk, h, hl]; rfl
end Go.Proofs.YthbdnkokklahcaaGreat

/- Walks: IssueGiven, on both sides. -/
namespace Go.Proofs.YthbdnkokklahcaaGreat
set_option maxRecDepth 100000
open Go.RowKit


theorem Own.raise {w : World} {B B' : Nat} {E : TypeId} {a : Option Addr} {n c : Nat} {vs : List Value} (h : Own w B E a n c vs) (hb : ∀ g, a = Option.some g → B' ≤ g.block) : Own w B' E a n c vs := by
  refine ⟨h.1, ?_⟩
  rcases h.2 with h2 | ⟨g, cap, cur, hv, hg, r⟩
  · exact .inl h2
  · have hv' := hv
    simp only [Value.slice.injEq, true_and] at hv'
    obtain ⟨rfl, rfl⟩ := hv'
    exact .inr ⟨g, c, cur, rfl, hb _ rfl, r⟩
theorem issue_r {wa w6 w7 : World} {gb lo q1 i0 i1 r0 r1 : Nat} (D : Rg) (a : Option Addr) (n c : Nat) (b : Option Addr) (m d : Nat) (ia : Option Addr) (im ic : Nat) (ra : Option Addr) (rm rc : Nat) (s : ByteArray) {ad6 : Option Addr} {c6 : Nat} (ha : wa.heap.size = gb + 1) (hi : lo ≤ q1 ∧ q1 ≤ i0 ∧ i0 ≤ i1 ∧ i1 ≤ gb ∧ q1 ≤ r0 ∧ r0 ≤ r1 ∧ r1 ≤ gb ∧ (i1 ≤ r0 ∨ r1 ≤ i0))
    (hc : ChR wa lo q1 D.ch a n c b m d) (hr : OwnIn wa r0 r1 2 ra rm rc (I D.revoked)) (hs : Own wa i0 9 ia im ic (St D.issued)) (hb : ∀ g, ia = some g → g.block < i1)
    (hg : wa.grownBy w6 (Value.slice ia im ic).ownBlock) (hk : ∀ g, ad6 = some g → (∃ g', ia = some g' ∧ g'.block = g.block) ∨ wa.heap.size ≤ g.block) (ho : Own w6 i0 9 ad6 (im + 1) c6 (St D.issued ++ [.string s]))
    (h7 : Chg gb (gb + 1) w6 w7) (hz : w7.heap.size = w6.heap.size) : RgR w7 lo w7.heap.size (issR D s) a n c b m d ad6 (im + 1) c6 ra rm rc := by
  have hg6 : Chg i0 i1 wa w6 := grown_chg hg (fun k e => by
    have h1 := World.ownsRow.lt hs k e
    cases ia with
    | none => simp [Value.ownBlock] at e
    | some g =>
      have h2 := hb g rfl
      have h3 := (hs.blk g rfl)
      simp [Value.ownBlock] at e
      omega)
  have hsz := hg6.size
  have he : St D.issued ++ [.string s] = St (issR D s).issued := by rw [show (issR D s).issued = D.issued ++ [s] from rfl, St_append]; rfl
  rw [he] at ho
  have hc7 : ChR w7 lo q1 (issR D s).ch a n c b m d := (hc.chg hg6 (.inr hi.2.1)).chg h7 (.inr (by omega))
  have hr7 : OwnIn w7 r0 r1 2 ra rm rc (I (issR D s).revoked) := (hr.chg hg6 (by omega)).chg h7 (.inr (by omega))
  by_cases hcase : ∀ g, ad6 = some g → wa.heap.size ≤ g.block
  · have ho7 : OwnIn w7 (gb + 1) w7.heap.size 9 ad6 (im + 1) c6 (St (issR D s).issued) :=
      ((ho.raise (B' := gb + 1) (fun g e => by have := hcase g e; omega)).chg h7 (fun g e => .inr (by have := hcase g e; omega))).in
    exact ⟨q1, gb + 1, w7.heap.size, r0, r1, by omega, hc7, ho7, hr7⟩
  · have hlt : ∀ g, ad6 = some g → g.block < i1 := fun g e => by
      rcases hk g e with ⟨g', e', h⟩ | h
      · have := hb g' e'; omega
      · exact absurd (fun g2 e2 => by rw [e] at e2; cases e2; exact h) hcase
    have ho7 : OwnIn w7 i0 i1 9 ad6 (im + 1) c6 (St (issR D s).issued) := ⟨ho.chg h7 (fun g e => .inl (by have := hlt g e; omega)), hlt⟩
    exact ⟨q1, i0, i1, r0, r1, by omega, hc7, ho7, hr7⟩
theorem SAt.nine {w : World} {g : Nat} {T : TypeId} {z0 z1 z2 z3 z4 z5 z6 z7 z8 : Value} (h : SAt w g T #[z0, z1, z2, z3, z4, z5, z6, z7, z8]) (u : Value) : SAt (w.setCell ⟨g, 7, none⟩ u) g T #[z0, z1, z2, z3, z4, z5, z6, u, z8] := h.set 7 u
def issOk (D : Rg) (s : ByteArray) : Bool := validRg D && (!decide (D.issued.length = 40) && (chkB D.ch s && freeB D s))
def issRes (D : Rg) (s : ByteArray) : Rg := if issOk D s then issR D s else zeroR
theorem iss_no {D : Rg} {s : ByteArray} (h : issOk D s = false) : issRes D s = zeroR := by rw [issRes, h]; rfl
theorem iss_yes {D : Rg} {s : ByteArray} (h : issOk D s = true) : issRes D s = issR D s := by rw [issRes, h]; rfl
end Go.Proofs.YthbdnkokklahcaaGreat

/- Walks: the reference's copy of a registry, its rows parted: the chain below a bound, the words and the revoked ones above it. -/
namespace Go.Proofs.YthbdnkokklahcaaGreat
set_option maxRecDepth 100000
open Go.RowKit

/-- append(s, src...) as one operation of a drawn region: where the row lies -/
theorem step_appends_at {P : Program} (w : World) {o : Oper} {a : Act} {K : Act → World → Prop} {Q : Exit → Act → World → Prop}
    (s x : Operand) (t : TypeId) (hop : o.op = Op.call { callee := Callee.builtin Builtin.append, args := #[s, x], argTypes := #[t, t] })
    (e : TypeId) (z : Value) (bytes : Nat) (h1 : P.underlying t = some (.slice e)) (h2 : (P.info? e).map (fun i => (i.zero, i.size, i.bytes)) = some (some z, 1, bytes)) (hz : z.cells.size = 1)
    (B : Nat) (ad : Option Addr) (n c : Nat) (vs : List Value) (src : Option Addr) (m c' : Nat) (us : List Value) (hu : ∀ u ∈ us, u.oneCell' = true) (hs : a.eval s = .slice ad n c) (hx : a.eval x = .slice src m c')
    (hown : Own w B e ad n c vs) (hsl : Sl w src m c' us) (hB : B ≤ w.heap.size) (hn : n + m < 1099511627776) (hb : bytes ≤ 64)
    (hK : ∀ ad' cc' w', Own w' B e ad' (n + m) cc' (vs ++ us) → Below B w w' → w.grownBy w' (Value.slice ad n c).ownBlock → (∀ g, ad' = Option.some g → (∃ g', ad = Option.some g' ∧ g'.block = g.block) ∨ w.heap.size ≤ g.block) → K (a.put o.dst (.slice ad' (n + m) cc')) w') :
    Oper.wp P o a w K Q := by
  obtain ⟨i, hi, hz0, hz1, rfl⟩ := info_parts h2
  cases src with
  | none =>
    have h0 : m = 0 := by
      rcases Nat.eq_zero_or_pos m with h | h
      · exact h
      · obtain ⟨b, off, ha, _⟩ := hsl.cells h; cases ha
    subst h0
    have hul : us = [] := List.eq_nil_of_length_eq_zero hsl.len
    subst hul
    have hr := run_append_none0 (P := P) (w := w) B t o.type e i h1 hi ad n c c' vs hown
    have h3 := hK ad c w (by rw [List.append_nil]; exact hown) (Below.refl _ _) ⟨rfl, rfl, rfl, Nat.le_refl _, fun _ _ _ => rfl⟩ (fun g hg => .inl ⟨g, hg, rfl⟩)
    unfold Oper.wp execOp
    simp only [hop, resolve, invoke, builtin, Sem.run_bind, Sem.run_pure, Result.andThen_ok, List.map_toArray, List.map_cons, List.map_nil, hs, hx, hr]
    exact h3
  | some ad0 =>
    obtain ⟨v', w', hr, h3, h4, h5, h6⟩ := run_append_own_at (P := P) w B t o.type e i z 1 i.bytes h1 hi hz0 hz1 rfl hz (by omega) (.slice ad n c) n vs hown ad0 m c' us (by rw [hsl.len, Nat.mul_one])
      (fun j u hj => by
        have hj' : j < m := by rw [← hsl.len]; exact (List.getElem?_eq_some_iff.1 hj).1
        obtain ⟨b, off, ha, hc⟩ := hsl.cells (by omega)
        simp only [Option.some.injEq] at ha
        subst ha
        rw [Addr.add_lit, hc j hj', List.getD_eq_getElem?_getD, hj]; rfl) hu (by unfold maxLen; omega) (by have := Nat.mul_le_mul (show n + m ≤ 1099511627776 by omega) hb; omega) hB
    have hv : ∃ ad' c', v' = .slice ad' (n + m) c' := by
      rcases h3.2 with ⟨h, h'⟩ | ⟨g, cap, cur, hv, _⟩
      · exact ⟨none, 0, by rw [h, h']⟩
      · exact ⟨_, _, hv⟩
    obtain ⟨ad', c', rfl⟩ := hv
    unfold Oper.wp execOp
    simp only [hop, resolve, invoke, builtin, Sem.run_bind, Sem.run_pure, Result.andThen_ok, List.map_toArray, List.map_cons, List.map_nil, hs, hx, hr]
    refine hK ad' c' w' h3 (Below.grown (Below.refl B w) h4 hB (fun k hk => (World.ownsRow.lt hown k hk).1)) h4 ?_
    rintro g rfl
    rcases h6 with h6 | h6
    · left
      cases ad with
      | none => simp [Value.ownBlock] at h6
      | some g' => exact ⟨g', rfl, by simpa [Value.ownBlock] using h6.symm⟩
    · right
      simp [Value.ownBlock] at h6
      omega
theorem keepB_grown {w1 wc w2 : World} {lo r : Nat} (hx : Ext w1 wc) (hg : wc.grownBy w2 (Value.slice (some ⟨r, 0, none⟩) 0 0).ownBlock) (hr : r < lo ∨ w1.heap.size ≤ r) : KeepB lo w1.heap.size w1 w2 := fun x h1 h2 =>
  (hg.block x (by have := hx.le; omega) (by simp [Value.ownBlock]; omega)).trans (Below.block hx x h2)
theorem grown_le {w1 wc w2 : World} {row : Option Nat} (hx : Ext w1 wc) (hg : wc.grownBy w2 row) : w1.heap.size ≤ w2.heap.size := Nat.le_trans hx.le hg.size
theorem at_lit {wc : World} {r lo hi : Nat} {ad : Option Addr} (h : ∀ g, ad = some g → (∃ g', some (⟨r, 0, none⟩ : Addr) = some g' ∧ g'.block = g.block) ∨ wc.heap.size ≤ g.block) (hr : r < lo ∨ hi ≤ r) (hh : hi ≤ wc.heap.size) : ∀ g, ad = some g → g.block < lo ∨ hi ≤ g.block := fun g hg => by
  rcases h g hg with ⟨g', h1, h2⟩ | h1
  · cases h1; simp only at h2; omega
  · right; omega
theorem lo_of {w1 : World} {B K : Nat} {E2 E1 E0 E : TypeId} {a : Option Addr} {n c : Nat} {ll : List (List (List Int))} {b : Option Addr} {m d : Nat} {vs : List Value} (h1 : OwnCube w1 B E2 E1 E0 a n c ll) (h2 : Own w1 B E b m d vs) (hk : K ≤ B) (hl : B ≤ w1.heap.size) :
    ∃ lo, K ≤ lo ∧ lo ≤ w1.heap.size ∧ Hid (lo = B) ∧ OwnCube w1 lo E2 E1 E0 a n c ll ∧ Own w1 lo E b m d vs := ⟨B, hk, hl, rfl, h1, h2⟩
/-- a registry of the call's own: the chain lies between two bounds, the words elsewhere, the revoked ones above -/
def RetRgD (D : Rg) (n m im rm : Nat) (w : World) (e : Ending) (w' : World) : Prop :=
  ∃ a c b d ia ic ra rc lo hk, e = .returned (.agg #[.int .i64 D.ch.base, .int .i64 D.ch.states, .int .i64 D.ch.start, .int .i64 D.ch.fin, .slice a n c, .slice b m d, .int .i64 D.apart, .slice ia im ic, .slice ra rm rc]) ∧ w.heap.size ≤ lo ∧ lo ≤ hk ∧ hk ≤ w'.heap.size ∧ (∀ W, KeepB lo hk w' W → ChIn W D.ch a n c b m d) ∧ Own w' w.heap.size 9 ia im ic (St D.issued) ∧ (∀ g, ia = some g → g.block < lo ∨ hk ≤ g.block) ∧ Own w' hk 2 ra rm rc (I D.revoked) ∧ Ext w w'
theorem retRgD_mk {D : Rg} {w wc w3 wf W0 : World} {a : Option Addr} {n c : Nat} {b : Option Addr} {m d : Nat} {ia : Option Addr} {im ic : Nat} {ra : Option Addr} {rm rc : Nat} {a0 : Option Addr} {c0 : Nat} {b0 : Option Addr} {d0 lo hi : Nat}
    (hin : ChIn W0 D.ch a0 n c0 b0 m d0) (hoc : OwnCube wc lo 83 23 2 a n c D.ch.tabs) (hop : Own wc lo 2 b m d (I D.ch.places)) (h1 : w.heap.size + 1 ≤ lo) (h0 : lo ≤ hi) (h2 : wc.heap.size ≤ hi)
    (h13 : KeepB lo wc.heap.size wc w3) (h13l : wc.heap.size ≤ w3.heap.size) (hc : Chg w.heap.size (w.heap.size + 1) w3 wf) (his : Own wf (w.heap.size + 1) 9 ia im ic (St D.issued)) (hpos : ∀ g, ia = some g → g.block < lo ∨ hi ≤ g.block) (hir : Own wf hi 2 ra rm rc (I D.revoked)) (hh : hi ≤ w3.heap.size) (hx : Ext w wf) : RetRgD D n m im rm w (.returned (.agg #[.int .i64 D.ch.base, .int .i64 D.ch.states, .int .i64 D.ch.start, .int .i64 D.ch.fin, .slice a n c, .slice b m d, .int .i64 D.apart, .slice ia im ic, .slice ra rm rc])) wf :=
  ⟨a, c, b, d, ia, ic, ra, rc, lo, hi, rfl, by omega, h0, Nat.le_trans hh hc.size, fun W hk => by
    have k1 : KeepB lo wc.heap.size wc W := h13.trans ((KeepB.chg hc h13l (.inl (by omega))).trans (hk.mono (Nat.le_refl _) h2))
    exact ⟨(hoc.keepB k1).cube, (hop.keepB k1).ints, hin.hn, hin.hn', hin.sm⟩, his.mono (by omega), hpos, hir, hx⟩
set_option maxRecDepth 20000 in
set_option maxHeartbeats 4000000 in
theorem spec_ownRegD (D : Rg) (q : Nat) (a : Option Addr) (n c : Nat) (b : Option Addr) (m d : Nat) (ia : Option Addr) (im ic : Nat) (ra : Option Addr) (rm rc : Nat) (w : World) (hv : RgAt w q D a n c b m d ia im ic ra rm rc) (hin : RgIn w D a n c b m d ia im ic ra rm rc) : Calls Tryz.prog 17 #[.pointer (some ⟨q, 0, none⟩)] w (RetRgD D n m im rm w) := by
  have HC := Lib.hid (fun W h => spec_ownChain D.ch q a n c b m d W (ChAt.ext hv.ch h) hin.ch.hn' hin.ch.hn hin.ch.sm)
  have HR := Lib.hid (fun W h => spec_own ra rm rc D.revoked W (Ints.ext hv.rs h) (by have := hin.hr; omega))
  have HI := Lib.hid hv.is
  have HL := Lib.hid hv.is.len
  have HLr := Lib.hid hv.rs.len
  have him := hin.hi
  obtain ⟨wz, hwz⟩ : ∃ wz, wz = w.alloc (.cells #[.int .i64 0, .int .i64 0, .int .i64 0, .int .i64 0, .slice none 0 0, .slice none 0 0, .int .i64 0, .slice none 0 0, .slice none 0 0] 32) := ⟨_, rfl⟩
  have hxz : Ext w wz := by rw [hwz]; exact (by repeat (first | (with_reducible exact Ext.refl _) | (with_reducible assumption) | (with_reducible refine Ext.drewN ?_ _) | (with_reducible refine Ext.drew ?_) | (with_reducible refine Ext.alloc ?_ _) | ((with_reducible refine Ext.setCell ?_ ?_ _); rotate_left; focus (first | (simp; done) | (simp; omega) | omega)) | (with_reducible refine Ext.trans ?_ (by with_reducible assumption))))
  have hzs : wz.heap.size = w.heap.size + 1 := by rw [hwz]; simp
  have hzl : w.heap.size < wz.heap.size := by omega
  have zc0 : ∀ w', Ext wz w' → w'.cell? ⟨w.heap.size, 0, none⟩ = some (.int .i64 0) := fun w' hx => hx.cell (by rw [hwz]; go_simp)
  have zc1 : ∀ w', Ext wz w' → w'.cell? ⟨w.heap.size, 1, none⟩ = some (.int .i64 0) := fun w' hx => hx.cell (by rw [hwz]; go_simp)
  have zc2 : ∀ w', Ext wz w' → w'.cell? ⟨w.heap.size, 2, none⟩ = some (.int .i64 0) := fun w' hx => hx.cell (by rw [hwz]; go_simp)
  have zc3 : ∀ w', Ext wz w' → w'.cell? ⟨w.heap.size, 3, none⟩ = some (.int .i64 0) := fun w' hx => hx.cell (by rw [hwz]; go_simp)
  have zc4 : ∀ w', Ext wz w' → w'.cell? ⟨w.heap.size, 4, none⟩ = some (.slice none 0 0) := fun w' hx => hx.cell (by rw [hwz]; go_simp)
  have zc5 : ∀ w', Ext wz w' → w'.cell? ⟨w.heap.size, 5, none⟩ = some (.slice none 0 0) := fun w' hx => hx.cell (by rw [hwz]; go_simp)
  have zc6 : ∀ w', Ext wz w' → w'.cell? ⟨w.heap.size, 6, none⟩ = some (.int .i64 0) := fun w' hx => hx.cell (by rw [hwz]; go_simp)
  have zc7 : ∀ w', Ext wz w' → w'.cell? ⟨w.heap.size, 7, none⟩ = some (.slice none 0 0) := fun w' hx => hx.cell (by rw [hwz]; go_simp)
  have zc8 : ∀ w', Ext wz w' → w'.cell? ⟨w.heap.size, 8, none⟩ = some (.slice none 0 0) := fun w' hx => hx.cell (by rw [hwz]; go_simp)
  have zf : ∀ i w', Ext wz w' → w'.frozen? ⟨w.heap.size, i, none⟩ = false := fun i w' hx => (Below.frozen (p := ⟨w.heap.size, i, none⟩) hx hzl).trans (by rw [hwz]; exact SAt.frozen (SAt.new' w _ _ rfl) i)
  have zs : ∀ w', Ext wz w' → w.heap.size + 1 ≤ w'.heap.size := fun w' hx => by have := hx.le; omega
  have zs2 : ∀ w', Ext wz w' → w.heap.size < w'.heap.size := fun w' hx => by have := hx.le; omega
  obtain ⟨_, k6, k7, k8, _, _⟩ := hv
  have HZ := Lib.hid zs
  have HIN := Lib.hid hin
  clear hin
  go_enter Tryz.func17, Tryz.ntmps17
  go_wp2
  rw [← hwz]
  clear hwz
  go_region_held3 (fun w' => Ext w w') ((exact (by repeat (first | (with_reducible exact Ext.refl _) | (with_reducible assumption) | (with_reducible refine Ext.drewN ?_ _) | (with_reducible refine Ext.drew ?_) | (with_reducible refine Ext.alloc ?_ _) | ((with_reducible refine Ext.setCell ?_ ?_ _); rotate_left; focus (first | (simp; done) | (simp; omega) | omega)) | (with_reducible refine Ext.trans ?_ (by with_reducible assumption)))))) ((first
    | (go_at_call 43; refine (HC.out _ (by repeat (first | (with_reducible exact Ext.refl _) | (with_reducible assumption) | (with_reducible refine Ext.drewN ?_ _) | (with_reducible refine Ext.drew ?_) | (with_reducible refine Ext.alloc ?_ _) | ((with_reducible refine Ext.setCell ?_ ?_ _); rotate_left; focus (first | (simp; done) | (simp; omega) | omega)) | (with_reducible refine Ext.trans ?_ (by with_reducible assumption))))).mono ?_; rintro e w1 ⟨a1, c1, b1, d1, rfl, hoc1', hop1', hx1⟩; have hz1 : Ext wz w1 := Ext.trans (by repeat (first | (with_reducible exact Ext.refl _) | (with_reducible assumption) | (with_reducible refine Ext.drewN ?_ _) | (with_reducible refine Ext.drew ?_) | (with_reducible refine Ext.alloc ?_ _) | ((with_reducible refine Ext.setCell ?_ ?_ _); rotate_left; focus (first | (simp; done) | (simp; omega) | omega)) | (with_reducible refine Ext.trans ?_ (by with_reducible assumption)))) hx1; obtain ⟨lo, hlo1, hlo2, HLO, hoc1, hop1⟩ := lo_of hoc1' hop1' (zs _ (by repeat (first | (with_reducible exact Ext.refl _) | (with_reducible assumption) | (with_reducible refine Ext.drewN ?_ _) | (with_reducible refine Ext.drew ?_) | (with_reducible refine Ext.alloc ?_ _) | ((with_reducible refine Ext.setCell ?_ ?_ _); rotate_left; focus (first | (simp; done) | (simp; omega) | omega)) | (with_reducible refine Ext.trans ?_ (by with_reducible assumption))))) (Ext.le hx1); clear hoc1' hop1'; have zs1 : ∀ w', Ext w1 w' → w1.heap.size ≤ w'.heap.size := fun w' hx => hx.le)
    | (go_at_call 44; refine (HR.out _ (by repeat (first | (with_reducible exact Ext.refl _) | (with_reducible assumption) | (with_reducible refine Ext.drewN ?_ _) | (with_reducible refine Ext.drew ?_) | (with_reducible refine Ext.alloc ?_ _) | ((with_reducible refine Ext.setCell ?_ ?_ _); rotate_left; focus (first | (simp; done) | (simp; omega) | omega)) | (with_reducible refine Ext.trans ?_ (by with_reducible assumption))))).mono ?_; rintro e w3 ⟨a3, c3, rfl, ho3', hx3⟩; rw [I_len, HLr.out] at ho3' ⊢; have ho3 := ho3'.mono (show w1.heap.size ≤ _ by first | (simp; omega) | omega); clear ho3'; have hx23 : Ext w2 w3 := Ext.trans (by repeat (first | (with_reducible exact Ext.refl _) | (with_reducible assumption) | (with_reducible refine Ext.drewN ?_ _) | (with_reducible refine Ext.drew ?_) | (with_reducible refine Ext.alloc ?_ _) | ((with_reducible refine Ext.setCell ?_ ?_ _); rotate_left; focus (first | (simp; done) | (simp; omega) | omega)) | (with_reducible refine Ext.trans ?_ (by with_reducible assumption)))) hx3; have hk13 : KeepB lo w1.heap.size w1 w3 := hk12.trans (KeepB.ext hx23 hl12); have ho23 := ho2.ext hx3; have hz3 : Ext wz w3 := Ext.trans (by repeat (first | (with_reducible exact Ext.refl _) | (with_reducible assumption) | (with_reducible refine Ext.drewN ?_ _) | (with_reducible refine Ext.drew ?_) | (with_reducible refine Ext.alloc ?_ _) | ((with_reducible refine Ext.setCell ?_ ?_ _); rotate_left; focus (first | (simp; done) | (simp; omega) | omega)) | (with_reducible refine Ext.trans ?_ (by with_reducible assumption)))) hx3; have hsz3 := zs _ hz3; have hsz32 := zs2 _ hz3; have hfr3 := fun i => zf i w3 hz3; have y0 := zc0 w3 hz3; have y1 := zc1 w3 hz3; have y2 := zc2 w3 hz3; have y3 := zc3 w3 hz3; have y4 := zc4 w3 hz3; have y5 := zc5 w3 hz3; have y6 := zc6 w3 hz3; have y7 := zc7 w3 hz3; have y8 := zc8 w3 hz3)
    | (refine step_appends_at _ _ _ 26 rfl 9 (.string .empty) 16 und_strs info_str rfl (w.heap.size + 1) _ 0 0 [] ia im ic (St D.issued) (oneS _) rfl rfl (by repeat (first | ((with_reducible refine Own.lit0' _ _ ?_ ?_) <;> (first | (simp; done) | (simp; omega) | omega | exact zs _ (by repeat (first | (with_reducible exact Ext.refl _) | (with_reducible assumption) | (with_reducible refine Ext.drewN ?_ _) | (with_reducible refine Ext.drew ?_) | (with_reducible refine Ext.alloc ?_ _) | ((with_reducible refine Ext.setCell ?_ ?_ _); rotate_left; focus (first | (simp; done) | (simp; omega) | omega)) | (with_reducible refine Ext.trans ?_ (by with_reducible assumption)))))) | (with_reducible refine Own.drew ?_) | (with_reducible refine Own.alloc' ?_ _) | (with_reducible refine Own.ext ?_ hx1))) (Strs.ext HI.out (by repeat (first | (with_reducible exact Ext.refl _) | (with_reducible assumption) | (with_reducible refine Ext.drewN ?_ _) | (with_reducible refine Ext.drew ?_) | (with_reducible refine Ext.alloc ?_ _) | ((with_reducible refine Ext.setCell ?_ ?_ _); rotate_left; focus (first | (simp; done) | (simp; omega) | omega)) | (with_reducible refine Ext.trans ?_ (by with_reducible assumption))))) (zs _ (by repeat (first | (with_reducible exact Ext.refl _) | (with_reducible assumption) | (with_reducible refine Ext.drewN ?_ _) | (with_reducible refine Ext.drew ?_) | (with_reducible refine Ext.alloc ?_ _) | ((with_reducible refine Ext.setCell ?_ ?_ _); rotate_left; focus (first | (simp; done) | (simp; omega) | omega)) | (with_reducible refine Ext.trans ?_ (by with_reducible assumption))))) (by omega) (by omega) ?_; intro ad2 cc2 w2 ho2' hb2 hg2 hat2; have hxa2 : Ext wz w2 := Ext.below (show Ext wz _ from (by repeat (first | (with_reducible exact Ext.refl _) | (with_reducible assumption) | (with_reducible refine Ext.drewN ?_ _) | (with_reducible refine Ext.drew ?_) | (with_reducible refine Ext.alloc ?_ _) | ((with_reducible refine Ext.setCell ?_ ?_ _); rotate_left; focus (first | (simp; done) | (simp; omega) | omega)) | (with_reducible refine Ext.trans ?_ (by with_reducible assumption))))) (Below.mono hb2 (by omega)); have hk12 : KeepB lo w1.heap.size w1 w2 := keepB_grown (show Ext w1 _ from (by repeat (first | (with_reducible exact Ext.refl _) | (with_reducible assumption) | (with_reducible refine Ext.drewN ?_ _) | (with_reducible refine Ext.drew ?_) | (with_reducible refine Ext.alloc ?_ _) | ((with_reducible refine Ext.setCell ?_ ?_ _); rotate_left; focus (first | (simp; done) | (simp; omega) | omega)) | (with_reducible refine Ext.trans ?_ (by with_reducible assumption))))) hg2 (by have hlo3 := HLO.out; first | omega | (simp at hlo3; omega) | (simp at hlo3 ⊢; omega)); have hl12 : w1.heap.size ≤ w2.heap.size := grown_le (show Ext w1 _ from (by repeat (first | (with_reducible exact Ext.refl _) | (with_reducible assumption) | (with_reducible refine Ext.drewN ?_ _) | (with_reducible refine Ext.drew ?_) | (with_reducible refine Ext.alloc ?_ _) | ((with_reducible refine Ext.setCell ?_ ?_ _); rotate_left; focus (first | (simp; done) | (simp; omega) | omega)) | (with_reducible refine Ext.trans ?_ (by with_reducible assumption))))) hg2; have hp2 : ∀ g, ad2 = some g → g.block < lo ∨ w1.heap.size ≤ g.block := at_lit hat2 (by have hlo3 := HLO.out; first | omega | (simp at hlo3; omega) | (simp at hlo3 ⊢; omega)) (show Ext w1 _ from (by repeat (first | (with_reducible exact Ext.refl _) | (with_reducible assumption) | (with_reducible refine Ext.drewN ?_ _) | (with_reducible refine Ext.drew ?_) | (with_reducible refine Ext.alloc ?_ _) | ((with_reducible refine Ext.setCell ?_ ?_ _); rotate_left; focus (first | (simp; done) | (simp; omega) | omega)) | (with_reducible refine Ext.trans ?_ (by with_reducible assumption))))).le; have ho2 : Own w2 (w.heap.size + 1) 9 ad2 im cc2 (St D.issued) := by rw [List.nil_append, Nat.zero_add] at ho2'; exact ho2')))
  all_goals
    go_wp2
    refine bodyPost_ret (v := .agg #[.int .i64 D.ch.base, .int .i64 D.ch.states, .int .i64 D.ch.start, .int .i64 D.ch.fin, .slice a1 n c1, .slice b1 m d1, .int .i64 D.apart, .slice ad2 im cc2, .slice a3 rm c3]) ?_ rfl ?_
    · simp [results, Tryz.results17, go_sem, y0, y1, y2, y3, y4, y5, y6, y7, y8]
    · have hxw3 : Ext w w3 := hxz.trans hz3
      have l13 : w1.heap.size ≤ w3.heap.size := Nat.le_trans hl12 hx23.le
      refine retRgD_mk (hi := w1.heap.size) (wc := w1) (w3 := w3) HIN.out.ch hoc1 hop1 (by omega) (by omega) (Nat.le_refl _) hk13 l13 (by repeat (first | (with_reducible exact Chg.refl _ _ _) | (with_reducible assumption) | ((with_reducible refine Chg.trans ?_ (Chg.setP _ _ _ ?_ ?_)); rotate_left; (focus (first | (simp; done) | (simp; omega) | omega)); (focus (first | (simp; done) | (simp; omega) | omega))) | (with_reducible refine Chg.trans ?_ (Chg.ext (Ext.alloc (Ext.refl _) _) _ _)) | (with_reducible refine Chg.trans ?_ (Chg.ext (Ext.drew (Ext.refl _)) _ _)) | (with_reducible refine Chg.trans ?_ (Chg.ext (Ext.drewN (Ext.refl _) _) _ _)))) (by repeat (first | (with_reducible exact ho23) | ((with_reducible refine Own.setBelow ?_ ?_ _); rotate_left; focus (first | (simp; done) | (simp; omega) | omega)))) hp2 (by repeat (first | (with_reducible exact ho3) | ((with_reducible refine Own.setBelow ?_ ?_ _); rotate_left; focus (first | (simp; done) | (simp; omega) | omega)))) l13 (by repeat (first | (with_reducible exact Ext.refl _) | (with_reducible assumption) | (with_reducible refine Ext.drewN ?_ _) | (with_reducible refine Ext.drew ?_) | (with_reducible refine Ext.alloc ?_ _) | ((with_reducible refine Ext.setCell ?_ ?_ _); rotate_left; focus (first | (simp; done) | (simp; omega) | omega)) | (with_reducible refine Ext.trans ?_ (by with_reducible assumption))))
theorem KeepB.setO {lo hi : Nat} {w w' : World} (h : KeepB lo hi w w') (p : Addr) (u : Value) (hp : p.block < lo ∨ hi ≤ p.block) : KeepB lo hi w (w'.setCell p u) := fun x h1 h2 =>
  (Below.heap_setCell _ _ _ _ (by intro h; omega)).trans (h x h1 h2)
theorem keepB_own {wa w6 : World} {lo hk n c : Nat} {ia : Option Addr} (hpos : ∀ g, ia = some g → g.block < lo ∨ hk ≤ g.block) (hg : wa.grownBy w6 (Value.slice ia n c).ownBlock) (hh : hk ≤ wa.heap.size) : KeepB lo hk wa w6 := fun x h1 h2 =>
  hg.block x (by omega) (by
    cases ia with
    | none => simp [Value.ownBlock]
    | some g => have := hpos g rfl; simp [Value.ownBlock]; omega)
theorem pos_app {wa : World} {lo hk : Nat} {ia ad6 : Option Addr} (h : ∀ g, ad6 = some g → (∃ g', ia = some g' ∧ g'.block = g.block) ∨ wa.heap.size ≤ g.block) (hpos : ∀ g, ia = some g → g.block < lo ∨ hk ≤ g.block) (hh : hk ≤ wa.heap.size) : ∀ g, ad6 = some g → g.block < lo ∨ hk ≤ g.block := fun g hg => by
  rcases h g hg with ⟨g', h1, h2⟩ | h1
  · have := hpos g' h1; omega
  · right; omega
end Go.Proofs.YthbdnkokklahcaaGreat
