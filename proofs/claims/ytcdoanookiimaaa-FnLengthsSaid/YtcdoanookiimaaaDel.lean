/- Plain: texts with one symbol more or less; a list put in order, each text once. Conditions: none. -/
import Derived.Test.YtcdoanookiimaaaPutM
import Derived.Test.YtcdoanookiimaaaText
import Derived.Lib.SlicesCompact
import Derived.Test.YtcdoanookiimaaaStrFn
import Derived.Test.YtcdoanookiimaaaChg
import Derived.Test.YtcdoanookiimaaaSort
import Derived.Lib.SliceRun
namespace Go.Proofs.Ytcdoanookiimaaa
set_option maxRecDepth 100000
open Go.RowKit

/-! ### compacted -/
section
variable {α : Type} [Inhabited α] [DecidableEq α]
theorem mem_compact {zs : List α} {x : α} : x ∈ Lib.compact zs ↔ x ∈ zs := by
  unfold Lib.compact Lib.compactUpTo
  rw [List.mem_map]
  constructor
  · rintro ⟨j, hj, rfl⟩
    rw [List.mem_filter, List.mem_range] at hj
    have h1 := hj.1
    rw [getElem!_pos zs.toArray j (by simpa using h1)]
    simp
  · intro hx
    obtain ⟨j, hj, he⟩ := List.mem_iff_getElem.1 hx
    have key : ∀ j, j < zs.length → zs.toArray[j]! = x → ∃ i, i < zs.length ∧ Lib.keeps zs.toArray i = true ∧ zs.toArray[i]! = x := by
      intro j
      induction j with
      | zero => intro h1 h2; exact ⟨0, h1, by simp [Lib.keeps], h2⟩
      | succ j ih =>
        intro h1 h2
        by_cases e : zs.toArray[j]! = x
        · exact ih (by omega) e
        · exact ⟨j + 1, h1, Lib.keeps_pos (by rw [Nat.add_sub_cancel, h2]; exact fun h => e h.symm), h2⟩
    obtain ⟨i, h1, h2, h3⟩ := key j hj (by rw [getElem!_pos zs.toArray j (by simpa using hj)]; simpa using he)
    exact ⟨i, by rw [List.mem_filter, List.mem_range]; exact ⟨h1, h2⟩, h3⟩
theorem compact_len (zs : List α) : (Lib.compact zs).length ≤ zs.length := by
  unfold Lib.compact Lib.compactUpTo
  rw [List.length_map]
  exact Nat.le_trans (List.length_filter_le _ _) (by simp)
end
theorem compact_lt {zs : List (List UInt8)} (h : zs.Pairwise fun x y => x ≤ y) : (Lib.compact zs).Pairwise fun x y => x < y := by
  unfold Lib.compact Lib.compactUpTo
  rw [List.pairwise_map]
  have hr : ((List.range zs.length).filter (Lib.keeps zs.toArray)).Pairwise fun i j => i < j := List.pairwise_lt_range.filter _
  have hm : ∀ j ∈ (List.range zs.length).filter (Lib.keeps zs.toArray), j < zs.length ∧ Lib.keeps zs.toArray j = true := fun j hj => by
    rw [List.mem_filter, List.mem_range] at hj; exact hj
  refine List.Pairwise.imp_of_mem ?_ hr
  intro i j hi hj hij
  obtain ⟨_, _⟩ := hm i hi
  obtain ⟨hj1, hj2⟩ := hm j hj
  have g : ∀ k, k < zs.length → zs.toArray[k]! = zs[k]! := fun k hk => by
    rw [getElem!_pos zs.toArray k (by simpa using hk), getElem!_pos zs k hk]; simp
  have hne : zs[j]! ≠ zs[j - 1]! := by
    unfold Lib.keeps at hj2
    rw [decide_eq_true_eq] at hj2
    rcases hj2 with h1 | h1
    · omega
    · rwa [g j hj1, g (j - 1) (by omega)] at h1
  rw [g i (by omega), g j hj1]
  have hp := List.pairwise_iff_getElem.1 h
  have h1 : zs[i]! ≤ zs[j - 1]! := by
    rw [getElem!_pos zs i (by omega), getElem!_pos zs (j - 1) (by omega)]
    by_cases e : i = j - 1
    · subst e; exact List.le_refl _
    · exact hp i (j - 1) (by omega) (by omega) (by omega)
  have h2 : zs[j - 1]! ≤ zs[j]! := by
    rw [getElem!_pos zs j hj1, getElem!_pos zs (j - 1) (by omega)]
    exact hp (j - 1) j (by omega) hj1 (by omega)
  have h3 : zs[j - 1]! < zs[j]! := by
    rw [← List.not_le]
    intro h4
    exact hne (List.le_antisymm h4 h2)
  exact List.lt_of_le_of_lt h1 h3
/-- in order, each text once: as the library does it -/
def ordK (l : List ByteArray) : List (List UInt8) := Lib.compact (sortK l)
def ordS (l : List ByteArray) : List ByteArray := (ordK l).map fun b => ⟨b.toArray⟩
theorem ordS_len (l : List ByteArray) : (ordS l).length = (ordK l).length := by simp [ordS]
theorem ordK_le (l : List ByteArray) : (ordK l).length ≤ l.length := by
  have := compact_len (sortK l)
  rwa [sortK_len] at this
theorem ordK_enc (l : List ByteArray) : (ordK l).map encStr = St (ordS l) := by
  unfold ordS St
  rw [List.map_map]
  rfl
theorem ordS_asc (l : List ByteArray) : ascS (ordS l) := by
  unfold ascS ordS
  rw [List.pairwise_map]
  refine (compact_lt (sortK_sorted l)).imp fun {a b} h => ?_
  exact lessS_lt.2 h
theorem mem_ordS {x : ByteArray} (l : List ByteArray) : x ∈ ordS l ↔ x ∈ l := by
  unfold ordS ordK
  rw [List.mem_map, ← mem_sortS l, sortS, List.mem_map]
  constructor
  · rintro ⟨b, h1, h2⟩; exact ⟨b, mem_compact.1 h1, h2⟩
  · rintro ⟨b, h1, h2⟩; exact ⟨b, mem_compact.2 h1, h2⟩
theorem ord_put (l : List ByteArray) : ordS l = putAll l := asc_eq (ordS_asc l) (putAll_asc l) fun x => by rw [mem_ordS, mem_putAll]

/-! ### one symbol more, one less -/
def insAt (s : ByteArray) (i : Nat) (d : Int) : ByteArray := s.extract 0 i ++ textOf [d] ++ s.extract i s.size
def insRow (s : ByteArray) (b i : Nat) : List ByteArray := (List.range b).map fun (d : Nat) => insAt s i d
def insT (s : ByteArray) (b k : Nat) : List ByteArray := ((List.range k).map (insRow s b)).flatten
def cutAt (s : ByteArray) (i : Nat) : ByteArray := s.extract 0 i ++ s.extract (i + 1) s.size
def cutT (s : ByteArray) (k : Nat) : List ByteArray := (List.range k).map (cutAt s)
theorem insRow_len (s : ByteArray) (b i : Nat) : (insRow s b i).length = b := by simp [insRow]
theorem insRow_step (s : ByteArray) (b i : Nat) : insRow s (b + 1) i = insRow s b i ++ [insAt s i b] := by simp [insRow, List.range_succ]
theorem insT_step (s : ByteArray) (b k : Nat) : insT s b (k + 1) = insT s b k ++ insRow s b k := by simp [insT, List.range_succ]
theorem insT_len (s : ByteArray) (b k : Nat) : (insT s b k).length = k * b := by
  induction k with
  | zero => simp [insT]
  | succ k ih => rw [insT_step, List.length_append, ih, insRow_len]; rw [Nat.add_mul]; omega
theorem cutT_step (s : ByteArray) (k : Nat) : cutT s (k + 1) = cutT s k ++ [cutAt s k] := by simp [cutT, List.range_succ]
theorem cutT_len (s : ByteArray) (k : Nat) : (cutT s k).length = k := by simp [cutT]
theorem insAt_size {s : ByteArray} {i : Nat} (h : i ≤ s.size) (d : Int) : (insAt s i d).size = s.size + 1 := by
  unfold insAt
  rw [ByteArray.size_append, ByteArray.size_append, ByteArray.size_extract, ByteArray.size_extract, textOf_size]
  simp; omega
theorem cutAt_size {s : ByteArray} {i : Nat} (h : i < s.size) : (cutAt s i).size + 1 = s.size := by
  unfold cutAt
  rw [ByteArray.size_append, ByteArray.size_extract, ByteArray.size_extract]
  omega
/-- the checked ones of a list, those put in so far -/
theorem putAll_filter (p : ByteArray → Bool) (l : List ByteArray) (t : ByteArray) : putAll ((l ++ [t]).filter p) = if p t then putS (putAll (l.filter p)) t else putAll (l.filter p) := by
  rw [List.filter_append]
  cases h : p t
  · simp [h]
  · simp only [List.filter_cons, h, if_true, List.filter_nil]
    exact putAll_snoc _ _
/-- kept by a list that is cut short in place: the first i of l, the rest of m -/
theorem filter_take_le (p : ByteArray → Bool) (l : List ByteArray) (k : Nat) : ((l.take k).filter p).length ≤ (l.filter p).length := by
  conv => rhs; rw [← List.take_append_drop k l]
  rw [List.filter_append, List.length_append]; omega
theorem filter_take_k (p : ByteArray → Bool) (l : List ByteArray) (k : Nat) : ((l.take k).filter p).length ≤ k :=
  Nat.le_trans (List.length_filter_le _ _) (by rw [List.length_take]; omega)
end Go.Proofs.Ytcdoanookiimaaa

/- Walks: slices.DeleteFunc and slices.Compact over texts, in place of a row of the call's own. -/
namespace Go.Proofs.Ytcdoanookiimaaa
open Go.RowKit Go.Sort

theorem own_suf {P : Program} {w : World} {B : Nat} {E : TypeId} {g n c : Nat} {vs : List Value} (h : Own w B E (some ⟨g, 0, none⟩) n c vs) (T : TypeId) (ht : P.underlying T = some (.slice E)) (he : P.cellsOf E = 1) (hel : P.elem T = E)
    (k : Nat) (hk : k < n) (w' : World) (K : IntKind) : (Instr.sliceAt T (.slice (some ⟨g, 0, none⟩) n c) (some (.int K k)) none none).run P w' = .ok (.slice (some ⟨g, k, none⟩) (n - k) (c - k)) w' := by
  obtain ⟨i, hi', hs⟩ := cellsOf_size he (by omega)
  have ht' : P.underlying T = some (.slice (P.elem T)) := by rw [hel]; exact ht
  have hc := h.sl.cap
  rw [run_sliceAt_slice w' T _ _ _ _ ht', run_slice_l w' T _ n c ht' K k (by omega) (by omega)]
  simp [sizeOf, typeInfo, hel, hi', hs, Result.andThen, sliced, Addr.add_lit]
  intro h; omega
theorem own_pre {P : Program} {w : World} {B : Nat} {E : TypeId} {g n c : Nat} {vs : List Value} (h : Own w B E (some ⟨g, 0, none⟩) n c vs) (T : TypeId) (ht : P.underlying T = some (.slice E)) (he : P.cellsOf E = 1) (hel : P.elem T = E)
    (k : Nat) (hk : k ≤ n) (w' : World) (K : IntKind) : (Instr.sliceAt T (.slice (some ⟨g, 0, none⟩) n c) none (some (.int K k)) none).run P w' = .ok (.slice (some ⟨g, 0, none⟩) k c) w' := by
  obtain ⟨i, hi', hs⟩ := cellsOf_size he (by omega)
  have ht' : P.underlying T = some (.slice (P.elem T)) := by rw [hel]; exact ht
  have hc := h.sl.cap
  rw [run_sliceAt_slice w' T _ _ _ _ ht', run_slice_h w' T _ n c ht' K k (by omega) (by omega)]
  simp [sizeOf, typeInfo, hel, hi', hs, Result.andThen, sliced, Addr.add_lit]
theorem own_cut {w : World} {B : Nat} {E : TypeId} {g n c : Nat} {vs : List Value} (h : Own w B E (some ⟨g, 0, none⟩) n c vs) (m : Nat) (hm : m ≤ n) : Own w B E (some ⟨g, 0, none⟩) m c (vs.take m) := by
  have hl := h.len
  refine ⟨by rw [List.length_take]; omega, ?_⟩
  rcases h.2 with ⟨h1, _⟩ | ⟨g', cap, cur, hv, hb, hg, h1, h2, h3, h4⟩
  · cases h1
  · simp only [Value.slice.injEq, true_and] at hv
    obtain ⟨hv1, rfl⟩ := hv
    refine .inr ⟨g', c, cur, by rw [hv1], hb, hg, by omega, h2, h3, ?_⟩
    rw [← h4, List.take_take]
    congr 1; omega
theorem take_set_ge {α : Type} (l : List α) (i k : Nat) (x : α) (h : i ≤ k) : (l.set k x).take i = l.take i := by
  rw [List.take_set_of_le h]
theorem own_setCells {B : Nat} {E : TypeId} {g n c : Nat} : ∀ (us vs : List Value) (i : Nat) (w : World), Own w B E (some ⟨g, 0, none⟩) n c vs → ∃ vs', vs'.take i = vs.take i ∧ Own (w.setCells g i us) B E (some ⟨g, 0, none⟩) n c vs'
  | [], vs, i, w, h => ⟨vs, rfl, h⟩
  | u :: us, vs, i, w, h => by
    obtain ⟨vs', h1, h2⟩ := own_setCells us _ (i + 1) _ (h.set i u)
    refine ⟨vs', ?_, h2⟩
    have h3 : (vs'.take (i + 1)).take i = ((vs.set i u).take (i + 1)).take i := by rw [h1]
    rw [List.take_take, List.take_take, show min i (i + 1) = i by omega] at h3
    rw [h3, take_set_ge _ _ _ _ (Nat.le_refl _)]
theorem chg_setCells {g : Nat} : ∀ (us : List Value) (i : Nat) (w : World), g < w.heap.size → Chg g (g + 1) w (w.setCells g i us)
  | [], i, w, _ => Chg.refl _ _ _
  | u :: us, i, w, h => (Chg.set w i u (Nat.le_refl _) (by omega)).trans (chg_setCells us (i + 1) _ (by rw [size_setCell]; exact h))

/-- the row's own first texts, what is kept among them -/
structure DelI (p : ByteArray → Bool) (l : List ByteArray) (n i j : Nat) (L : List ByteArray) : Prop where
  len : L.length = n
  lt : i < j
  le : j ≤ n
  low : L.take i = (l.take j).filter fun x => !p x
  high : L.drop j = l.drop j
theorem DelI.start {p : ByteArray → Bool} {l : List ByteArray} {n k : Nat} (hl : l.length = n) (hk : k < n) (h1 : p (gs l k) = true) (h2 : NoneIn p (l.take k)) : DelI p l n k (k + 1) l :=
  ⟨hl, by omega, by omega, by
    rw [take_gs (by omega), List.filter_append, List.filter_eq_self.2 (fun x hx => by rw [h2 x hx]; rfl)]
    simp [h1], rfl⟩
theorem DelI.at {p : ByteArray → Bool} {l L : List ByteArray} {n i j : Nat} (h : DelI p l n i j L) (_hl : l.length = n) (_hj : j < n) : gs L j = gs l j := by
  have h1 : gs (L.drop j) 0 = gs (l.drop j) 0 := by rw [h.high]
  simpa [gs] using h1
theorem DelI.keep {p : ByteArray → Bool} {l L : List ByteArray} {n i j : Nat} (h : DelI p l n i j L) (hl : l.length = n) (hj : j < n) (hp : p (gs l j) = false) : DelI p l n (i + 1) (j + 1) (L.set i (gs l j)) :=
  ⟨by rw [List.length_set]; exact h.len, by have := h.lt; omega, by omega, by
    have h1 := h.lt
    have h2 := h.len
    rw [take_gs (l := l) (by omega), List.filter_append, ← h.low, take_gs (by rw [List.length_set]; omega), take_set_ge _ _ _ _ (Nat.le_refl _)]
    have e : gs (L.set i (gs l j)) i = gs l j := by simp only [gs, List.getD_eq_getElem?_getD]; rw [List.getElem?_set_self (by omega)]; rfl
    rw [e]
    simp [hp], by
    have h1 := h.lt
    have h3 := congrArg (List.drop 1) h.high
    rw [List.drop_drop, List.drop_drop] at h3
    rw [List.drop_set_of_lt (by omega)]
    exact h3⟩
theorem DelI.skip {p : ByteArray → Bool} {l L : List ByteArray} {n i j : Nat} (h : DelI p l n i j L) (hl : l.length = n) (hj : j < n) (hp : p (gs l j) = true) : DelI p l n i (j + 1) L :=
  ⟨h.len, by have := h.lt; omega, by omega, by
    rw [take_gs (l := l) (by omega), List.filter_append, ← h.low]
    simp [hp], by
    have h3 := congrArg (List.drop 1) h.high
    rw [List.drop_drop, List.drop_drop] at h3
    exact h3⟩
/-- the row cut to what is kept; nothing else has changed -/
def RetDel (g c B : Nat) (l : List ByteArray) (w : World) (e : Ending) (w' : World) : Prop :=
  e = .returned (.slice (some ⟨g, 0, none⟩) l.length c) ∧ Own w' B 9 (some ⟨g, 0, none⟩) l.length c (St l) ∧ Chg g (g + 1) w w'
set_option maxRecDepth 20000 in
set_option maxHeartbeats 4000000 in
theorem deleteFuncT (g n c B : Nat) (l : List ByteArray) (f : Nat) (caps : Array Value) (p : ByteArray → Bool) (w : World) (ho : Own w B 9 (some ⟨g, 0, none⟩) n c (St l)) (hn : n ≤ 1048576)
    (he : ∀ args w', (callFunc f args).run Try.prog w' = .ok (.enter f args) w') (hf : ∀ k, k < n → ∀ w', Chg g (g + 1) w w' → Calls Try.prog f (#[.string (gs l k)] ++ caps) w' (Ret (.bool (p (gs l k))) w')) :
    Calls Try.prog 142 #[.slice (some ⟨g, 0, none⟩) n c, .func (.func f) #[] caps] w (RetDel g c B (l.filter fun x => !p x) w) := by
  have hl : l.length = n := (St_len l).symm.trans ho.len
  have hlt := ho.lt
  have HIx := Lib.hid (indexFuncT (some ⟨g, 0, none⟩) n c l f caps p w ho.sl (by omega) he (fun k hk w' h => hf k hk w' (Chg.ext h _ _)))
  have HO := Lib.hid ho
  have HL := Lib.hid hl
  have HF := Lib.hid hf
  clear hf
  cases hany : l.any p with
  | false =>
    have hall : ∀ x ∈ l, p x = false := fun x hx => by
      rw [List.any_eq_false] at hany; simpa using hany x hx
    have hidx : idx p l = -1 := idx_none hall
    have hfl : (l.filter fun x => !p x) = l := List.filter_eq_self.2 fun x hx => by rw [hall x hx]; rfl
    rw [hidx] at HIx
    have HFl := Lib.hid hfl
    clear hidx hall hany ho hl hfl
    go_enter Try.func142, Try.ntmps142
    go_wp2_with (refine HIx.out.mono ?_; rintro e w1 ⟨rfl, hx1⟩)
    go_ret
    rw [HFl.out]
    have h := HO.out.ext hx1
    rw [← HL.out] at h ⊢
    exact ⟨rfl, h, Chg.ext hx1 _ _⟩
  | true =>
    obtain ⟨k0, hk0, hidx, hp0, hno⟩ : ∃ k, k < l.length ∧ idx p l = (k : Int) ∧ p (gs l k) = true ∧ NoneIn p (l.take k) := by
      have hge := idx_ge p l
      rw [hany, decide_eq_true_eq] at hge
      unfold idx at hge ⊢
      cases hq : l.findIdx? p with
      | none => rw [hq] at hge; simp at hge
      | some i =>
        obtain ⟨h1, h2, h3⟩ := (List.findIdx?_eq_some_iff_getElem).1 hq
        refine ⟨i, h1, rfl, by rw [gs_get h1]; exact h2, fun y hy => ?_⟩
        rw [List.mem_take_iff_getElem] at hy
        obtain ⟨j, hj, rfl⟩ := hy
        have := h3 j (by omega)
        simpa using this
    rw [hidx] at HIx
    have HS := Lib.hid (DelI.start hl (by omega) hp0 hno)
    have hk0n : k0 < n := by omega
    have hne1 : ((k0 : Int) == -1) = false := beq_eq_false_iff_ne.2 (by omega)
    clear hidx hp0 hno hany ho hk0 hl
    go_enter Try.func142, Try.ntmps142
    go_wp2_with (refine HIx.out.mono ?_; rintro e w1 ⟨rfl, hx1⟩)
    go_loopw [5, 6, 7] (fun s5 s6 _ wr => ∃ (i j : Nat) (L : List ByteArray), s5 = .int .i64 i ∧ s6 = .int .i64 j ∧ Hid (DelI p l n i j L) ∧ Hid (Own wr B 9 (some ⟨g, 0, none⟩) n c (St L)) ∧ Chg g (g + 1) w wr) (fun _ s6 _ _ => n - (intOf s6).toNat)
    case atStart => exact ⟨k0, k0 + 1, l, rfl, by go_num, HS.out, HO.out.ext hx1, Chg.ext hx1 _ _⟩
    case round =>
      obtain ⟨i, j, L, rfl, rfl, HD, HOw, hc⟩ := hrel
      have hij := HD.out.lt
      have hjn := HD.out.le
      by_cases hltj : j < n
      · have HC := Lib.hid (HF.out j hltj wr hc)
        obtain ⟨hix, hcell, hfr⟩ := HOw.out.at (P := Try.prog) 28 und_strs cell_str j hltj .i64
        obtain ⟨hix2, hcell2, hfr2⟩ := HOw.out.at (P := Try.prog) 28 und_strs cell_str i (by omega) .i64
        have hcj : (St L).getD j undef = .string (gs l j) := by
          have h1 := gv_St (l := L) (k := j) (by rw [HD.out.len]; exact hltj)
          rw [HD.out.at HL.out hltj] at h1
          exact h1
        rw [hcj] at hcell
        obtain ⟨old, hold⟩ : ∃ old, old = (St L).getD i undef := ⟨_, rfl⟩
        rw [← hold] at hcell2
        clear hold hcj
        cases hp : p (gs l j) with
        | true =>
          rw [hp] at HC
          have HD2 := Lib.hid (HD.out.skip HL.out hltj hp)
          clear hp
          go_wp2_with (refine HC.out.mono ?_; rintro e w2 ⟨rfl, hx2⟩)
          exact ⟨⟨i, j + 1, L, rfl, by go_num, HD2.out, HOw.out.ext hx2, hc.trans (Chg.ext hx2 _ _)⟩, by simp [intOf]; omega⟩
        | false =>
          rw [hp] at HC
          have HD2 := Lib.hid (HD.out.keep HL.out hltj hp)
          clear hp
          have HOs := Lib.hid (fun W (h : Ext wr W) => St_set L i (gs l j) ▸ (HOw.out.ext h).set i (.string (gs l j)))
          have hrule : ∀ W, Ext wr W → W.cell? ⟨g, i, none⟩ = some old := fun W h => h.cell hcell2
          have hrulf : ∀ W, Ext wr W → W.frozen? ⟨g, i, none⟩ = false := fun W h => by
            rw [Below.frozen h (World.block_lt_of_cell? _ _ hcell2)]; exact hfr2
          have hrr : Ext wr wr := Ext.refl _
          go_wp2_with (refine HC.out.mono ?_; rintro e w2 ⟨rfl, hx2⟩)
          exact ⟨⟨i + 1, j + 1, L.set i (gs l j), by go_num, by go_num, HD2.out, HOs.out w2 hx2, hc.trans ((Chg.ext hx2 _ _).trans (Chg.set _ _ _ (Nat.le_refl _) (by omega)))⟩, by simp [intOf]; omega⟩
      · obtain rfl : j = n := by omega
        have hsuf := own_suf (P := Try.prog) HOw.out 28 und_strs cell_str elem_strs i (by omega)
        have hpre := own_pre (P := Try.prog) HOw.out 28 und_strs cell_str elem_strs i (by omega)
        have hcl : ∀ ty, (Builtin.clear_ #[28] ty #[.slice (some ⟨g, i, none⟩) (j - i) (c - i)]).run Try.prog wr = .ok (.tuple #[]) (wr.setCells g i (List.replicate (j - i) (.string .empty))) :=
          fun ty => Lib.run_clear_slice wr _ 9 ty (.string .empty) und_strs (fun w => by simp [zeroValue, typeInfo, go_sem]; rfl) rfl rfl g i _ _ (by omega) (fun t ht => by rw [(HOw.out.at (P := Try.prog) 28 und_strs cell_str (i + t) (by omega) .i64).2.1]; rfl) (fun t ht => (HOw.out.at (P := Try.prog) 28 und_strs cell_str (i + t) (by omega) .i64).2.2)
        have hgr : g < wr.heap.size := HOw.out.lt.2
        go_wp2
        go_ret
        obtain ⟨vs', h1, h2⟩ := own_setCells (List.replicate (j - i) (.string .empty)) _ i wr HOw.out
        have h3 := own_cut h2 i (by omega)
        have h4 : vs'.take i = St (l.filter fun x => !p x) := by
          have h5 := HD.out.low
          rw [take_full (l := l) (by rw [HL.out]; exact Nat.le_refl _)] at h5
          rw [h1, ← h5]
          simp [St, List.map_take]
        have h6 : (l.filter fun x => !p x).length = i := by
          have h7 := congrArg List.length h4
          rw [St_len, List.length_take, h2.len] at h7
          omega
        rw [h4] at h3
        rw [← h6] at h3 ⊢
        exact ⟨rfl, h3, hc.trans (by rw [h6]; exact chg_setCells _ _ _ hgr)⟩
theorem compactT (g n c B : Nat) (zs : List (List UInt8)) (w : World) (ho : Own w B 9 (some ⟨g, 0, none⟩) n c (zs.map encStr)) (hn : n ≤ 1048576) :
    Calls Try.prog 191 #[.slice (some ⟨g, 0, none⟩) n c] w (fun e w' => e = .returned (.slice (some ⟨g, 0, none⟩) (Lib.compact zs).length c) ∧ Own w' B 9 (some ⟨g, 0, none⟩) (Lib.compact zs).length c ((Lib.compact zs).map encStr) ∧ Chg g (g + 1) w w') := by
  have hl : zs.length = n := by have := ho.len; rwa [List.length_map] at this
  rcases ho.2 with ⟨h1, _⟩ | ⟨g', cap, cur, hv, hb, hg, hnc, hcm, hcs, htake⟩
  · cases h1
  simp only [Value.slice.injEq, Option.some.injEq, Addr.mk.injEq, and_true, true_and] at hv
  obtain ⟨rfl, rfl⟩ := hv
  have hH : Holds encStr w g 0 zs.toArray := holds_of_block hg (by rw [hl]; simpa using htake)
  have h := Try.slices_Compact_string g 0 c zs w hH (by omega) (by omega)
  rw [hl] at h
  refine h.mono ?_
  rintro e w' ⟨rfl, q, rfl⟩
  have hle := compact_len zs
  obtain ⟨ts, hts⟩ : ∃ ts, ts = Lib.compact zs ++ List.replicate (n - (Lib.compact zs).length) ([] : List UInt8) := ⟨_, rfl⟩
  have htl : ts.length = zs.length := by rw [hts, List.length_append, List.length_replicate]; omega
  rw [← hts]
  have h3 := ownsRow_sorted (ts := ts) (ss := zs) (n := q) (os := #[]) htl hb hg (by rw [hl]; exact hnc) hcm hcs
  rw [hl, grow_empty] at h3
  have h4 := own_cut h3 (Lib.compact zs).length (by omega)
  rw [← List.map_take, hts, List.take_left] at h4
  refine ⟨rfl, by rw [hts]; exact h4, ?_⟩
  have h5 := grownBy_sorted (w := w) (g := g) (n := q) (os := #[]) ts.toArray
  rw [grow_empty] at h5
  exact grown_chg h5 (fun k hk => by simp only [Option.some.injEq] at hk; omega)
end Go.Proofs.Ytcdoanookiimaaa
