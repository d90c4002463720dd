/- A map of the call's own from texts to numbers. -/
import Derived.Test.YtbcfbkhbangeoaaTyD
import Derived.Maps.Ext
import Derived.Maps.OwnSet
import Derived.Maps.RangeWalk
import Derived.Sort.KeysCollected
import Derived.Test.YtbcfbkhbangeoaaChS
import Derived.Test.YtbcfbkhbangeoaaText
import Derived.Test.YtbcfbkhbangeoaaOwnS
import Derived.Sort.OwnSorted
import Derived.Shelf.SlSortCmp.WholeK
import Derived.Test.YtbcfbkhbangeoaaChW
import Derived.Deep.CutBlock
namespace Go.Proofs.Ytbcfbkhbangeoaa
set_option maxRecDepth 100000
open Go.RowKit

/-- the last number that was laid at a text -/
def valK (L : List (ByteArray × Int)) (s : ByteArray) (z : Int) : Int := L.foldl (fun z p => if p.1 = s then p.2 else z) z
theorem valK_snoc (L : List (ByteArray × Int)) (t : ByteArray) (v : Int) (s : ByteArray) (z : Int) : valK (L ++ [(t, v)]) s z = if t = s then v else valK L s z := by simp [valK]
def KMap (w : World) (b n : Nat) (L : List (ByteArray × Int)) : Prop :=
  ∃ D : DataW Unit, w.ownsMap Try.prog 9 (plainElem Try.prog 2) b n D ∧ Maps.IsMap D ∧ ∀ (s : ByteArray) (z : Int), D.atKey (.string s.data.toList) (.lit (.int .i64 z)) = .lit (.int .i64 (valK L s z))
theorem und_strK : Try.prog.underlying 9 = some .string := Try.underlying9
theorem und_int64K : Try.prog.underlying 2 = some (.int .i64) := Try.underlying2
theorem und_mapK : Try.prog.underlying 65 = some (.map 9 2) := Try.underlying65
theorem keyedStr : Maps.Keyed Try.prog 9 := Maps.string_keyed und_strK
theorem keyOf_strK {s : ByteArray} (h : s.size ≤ maxLen) : keyOf Try.prog 9 (.string s) = some (.string s.data.toList) := by
  simp [keyOf, mapKey]; exact h
theorem wfK {x : Int} (h0 : 0 ≤ x) (h1 : x ≤ 1000) : (Lit.int .i64 x).wf = true := by
  simp [Lit.wf, IntKind.min, IntKind.max, IntKind.signed, IntKind.bits]; omega
theorem KMap.made (w : World) : KMap (w.alloc (.map #[] 0)) w.heap.size 0 [] :=
  ⟨.map [], World.ownsMap_made _ _ _ _, Maps.isMap_empty, fun s z => by simp [DataW.atKey, valK]⟩
theorem KMap.lt {w : World} {b n : Nat} {L : List (ByteArray × Int)} (h : KMap w b n L) : b < w.heap.size := by
  obtain ⟨D, h1, _, _⟩ := h
  exact h1.lt
theorem KMap.same {w W : World} {b n : Nat} {L : List (ByteArray × Int)} (h : KMap w b n L) (hb : W.heap[b]? = w.heap[b]?) : KMap W b n L := by
  obtain ⟨D, ⟨es, clock, h1, h2⟩, h3⟩ := h
  exact ⟨D, ⟨es, clock, hb.trans h1, h2⟩, h3⟩
theorem KMap.ext {w W : World} {b n : Nat} {L : List (ByteArray × Int)} (h : KMap w b n L) (hx : Ext w W) : KMap W b n L := h.same (Below.block hx b h.lt)
theorem KMap.put {w : World} {b n : Nat} {L : List (ByteArray × Int)} (h : KMap w b n L) (hn : n < 1048576000) {t : ByteArray} (ht : t.size ≤ 1048576) {v : Int} (h0 : 0 ≤ v) (h1 : v ≤ 1000) :
    ∃ w', (Instr.mapUpdate 65 (.map (some b)) (.string t) (.int .i64 v)).run Try.prog w = .ok () w' ∧ KMap w' b (n + 1) (L ++ [(t, v)]) ∧ Touch b w w' := by
  obtain ⟨D, hD, hI, hat⟩ := h
  have hkl : WideAt.IsKeyLit (.string t.data.toList) := by simp [WideAt.IsKeyLit]
  obtain ⟨w', hrun, hown, hgr⟩ := hD.update keyedStr und_mapK (by unfold maxLen; omega) (keyOf_strK (s := t) (by unfold maxLen; omega)) (plainElem_int und_int64K (wfK h0 h1))
  refine ⟨w', hrun, ⟨_, hown, hI.put _ _, fun s z => ?_⟩, ⟨hgr.os, hgr.tape, hgr.output, hgr.size, fun k hk hne => hgr.block k hk (by simpa using hne)⟩⟩
  rw [valK_snoc]
  by_cases hz : t = s
  · subst hz
    rw [Maps.atKey_put_same hI hkl, if_pos rfl]
  · rw [Maps.atKey_put_other (by intro e; injection e with e; exact hz (by cases t; cases s; simp only at e; congr; exact (Array.toList_inj.1 e).symm)), hat s, if_neg hz]
end Go.Proofs.Ytbcfbkhbangeoaa

/- Walks: the candidates of one kind are laid into a map. -/
namespace Go.Proofs.Ytbcfbkhbangeoaa
set_option maxRecDepth 100000
open Go.RowKit

theorem wrong_mem {k base : Nat} {ds t : List Int} {m : Nat} (h : t ∈ wrongN k base ds m) : ∃ pl, pl < m ∧ ∃ t', t' ∈ chgL k base ((ds.drop pl).take (lenK k)) ∧ t = ds.take pl ++ t' ++ ds.drop (pl + lenK k) := by
  unfold wrongN at h
  obtain ⟨l, hl, ht⟩ := List.mem_flatten.1 h
  obtain ⟨pl, hp, rfl⟩ := List.mem_map.1 hl
  unfold wrongR at ht
  obtain ⟨t', ht', rfl⟩ := List.mem_map.1 ht
  exact ⟨pl, List.mem_range.1 hp, t', ht', rfl⟩
theorem wrong_dig {k base : Nat} {ds t : List Int} (hd : ∀ x ∈ ds, 0 ≤ x ∧ x < (base : Int)) (h5 : k ≤ 4 ∨ 10 ≤ base) (h : t ∈ wrongL k base ds) : t.length = ds.length ∧ ∀ x ∈ t, 0 ≤ x ∧ x < (base : Int) := by
  obtain ⟨pl, hp, t', ht', rfl⟩ := wrong_mem h
  have hk1 : 1 ≤ lenK k := by unfold lenK; split <;> (try split) <;> omega
  have hfl : ((ds.drop pl).take (lenK k)).length = lenK k := by rw [List.length_take, List.length_drop]; omega
  have hl := chgL_len hfl ht'
  refine ⟨by rw [List.length_append, List.length_append, List.length_take, List.length_drop, hl]; omega, fun x hx => ?_⟩
  rcases List.mem_append.1 hx with hx | hx
  · rcases List.mem_append.1 hx with hx | hx
    · exact hd x (List.mem_of_mem_take hx)
    · exact chg_dig (fun y hy => hd y (List.mem_of_mem_drop (List.mem_of_mem_take hy))) hfl h5 ht' x hx
  · exact hd x (List.mem_of_mem_drop hx)
/-- does a chain check digits -/
def chkD (D : Ch) (t : List Int) : Bool := runS D 0 D.start t == D.fin
/-- what is laid into the map for the first lists of a kind -/
def putsK (D : Ch) (k : Nat) (LL : List (List Int)) (j : Nat) : List (ByteArray × Int) := ((LL.take j).filter (chkD D)).map fun t => (textOf t, (k : Int))
theorem putsK_step (D : Ch) (k : Nat) {LL : List (List Int)} {j : Nat} (h : j < LL.length) : putsK D k LL (j + 1) = putsK D k LL j ++ (if chkD D (gl LL j) then [(textOf (gl LL j), (k : Int))] else []) := by
  unfold putsK
  rw [take_gl h, List.filter_append, List.map_append]
  congr 1
  cases hc : chkD D (gl LL j) <;> simp [hc]
/-- the state while the candidates of a kind are laid -/
structure CaI (D : Ch) (q p9 p8 mb : Nat) (k : Nat) (LL : List (List Int)) (L0 : List (ByteArray × Int)) (N0 : Nat) (w0 : World) (j : Nat) (W : World) : Prop where
  mp : ∃ nn, KMap W mb nn (L0 ++ putsK D k LL j) ∧ nn ≤ N0 + j
  ex : Ext w0 W
  v9 : VarAt W p9 2 (.int .i64 k)
  v8 : VarAt W p8 65 (.map (some mb))
theorem CaI.ext {D : Ch} {q p9 p8 mb k : Nat} {LL : List (List Int)} {L0 : List (ByteArray × Int)} {N0 : Nat} {w0 : World} {j : Nat} {W W' : World} (h : CaI D q p9 p8 mb k LL L0 N0 w0 j W) (hx : Ext W W') : CaI D q p9 p8 mb k LL L0 N0 w0 j W' := by
  obtain ⟨nn, h1, h2⟩ := h.mp
  exact ⟨⟨nn, h1.ext hx, h2⟩, h.ex.trans hx, h.v9.ext hx, h.v8.ext hx⟩
theorem var_ne_map {W : World} {p b n : Nat} {T : TypeId} {v : Value} {L : List (ByteArray × Int)} (h : VarAt W p T v) (hm : KMap W b n L) : p ≠ b := by
  rintro rfl
  obtain ⟨D, ⟨es, clock, h1, _⟩, _⟩ := hm
  unfold VarAt at h
  rw [h] at h1
  cases h1
set_option maxHeartbeats 4000000 in
theorem cand_step (D : Ch) (hok : OkCh D) (q p9 p8 mb : Nat) (k : Nat) (hk : k ≤ 5) (LL : List (List Int)) (L0 : List (ByteArray × Int)) (N0 : Nat) (w0 : World) (a : Option Addr) (n c : Nat) (a' : Option Addr) (n' c' : Nat) (hch : ChAt w0 q D a n c a' n' c') (hmb : w0.heap.size ≤ mb) (hN : N0 + LL.length ≤ 1048576)
    (hdg : ∀ t ∈ LL, t.length = D.places.length ∧ DigC D t) (j : Nat) (W : World) (ta : Option Addr) (tn tc : Nat) (hj : j < LL.length) (hi : CaI D q p9 p8 mb k LL L0 N0 w0 j W) (ht : Ints W ta tn tc (gl LL j)) :
    Calls Try.prog 37 (#[.slice ta tn tc] ++ #[.pointer (some ⟨q, 0, none⟩), .pointer (some ⟨p9, 0, none⟩), .pointer (some ⟨p8, 0, none⟩)]) W
      (fun e w' => e = .returned (.tuple #[]) ∧ CaI D q p9 p8 mb k LL L0 N0 w0 (j + 1) w' ∧ W.heap.size ≤ w'.heap.size ∧ ∀ b, b < W.heap.size → b ≠ mb → w'.heap[b]? = W.heap[b]?) := by
  obtain ⟨hl, hdc⟩ := hdg _ (gl_mem hj)
  have htl := ht.len
  have hst := putsK_step D k hj
  have hp20 := hok.p20
  have HI := Lib.hid hi
  have HT := Lib.hid ht
  have HCk := Lib.hid (impl_checks D q a n c a' n' c' ta tn tc (gl LL j) W (hch.ext hi.ex) hok ht hdc (by omega))
  have h36 : Dig36 (gl LL j) := fun d hd => by have := hdc d hd; have := hok.b36; omega
  have HWo := Lib.hid (fun W' (h : Ext W W') => impl_wordOf ta tn tc (gl LL j) W' (ht.ext h) h36 (by omega))
  have hsz : (textOf (gl LL j)).size ≤ 1048576 := by rw [textOf_size]; omega
  have c9 := fun W' (h : Ext W W') => (hi.v9.ext h).cell
  have c8 := fun W' (h : Ext W W') => (hi.v8.ext h).cell
  have hWW : Ext W W := Ext.refl _
  have HSt := Lib.hid hst
  change Hid (Calls Try.prog 38 _ W (Ret (.bool (chkD D (gl LL j))) W)) at HCk
  cases hc : chkD D (gl LL j)
  · rw [hc] at HCk
    have hst2 : putsK D k LL (j + 1) = putsK D k LL j := by rw [HSt.out, hc]; simp
    have HS2 := Lib.hid hst2
    clear hi ht hl hdc htl hst h36 c9 c8 hch hdg hc hst2
    go_enter Try.func37, Try.ntmps37
    go_wp2_with ((with_reducible refine HCk.out.mono ?_); rintro e w1 ⟨rfl, hx1⟩; have HX1 := Lib.hid hx1; clear hx1)
    have h := HI.out.ext HX1.out
    obtain ⟨nn, m1, m2⟩ := h.mp
    exact bodyPost_end (v := .tuple #[]) (by simp [results, Try.results37, go_sem]) rfl ⟨rfl, ⟨⟨nn, by rw [HS2.out]; exact m1, by omega⟩, h.ex, h.v9, h.v8⟩, HX1.out.le, fun b hb _ => Below.block HX1.out b hb⟩
  · rw [hc] at HCk
    have hst2 : putsK D k LL (j + 1) = putsK D k LL j ++ [(textOf (gl LL j), (k : Int))] := by rw [HSt.out, hc]; simp
    have HS2 := Lib.hid hst2
    clear hi ht hl hdc htl hst h36 hch hdg hc hst2
    go_enter Try.func37, Try.ntmps37
    go_wp2_with ((with_reducible refine HCk.out.mono ?_); rintro e w1 ⟨rfl, hx1⟩)
    (refine wp_region_upl 4 W (by repeat (first | (with_reducible exact Ext.refl _) | (with_reducible refine Ext.drewN ?_ _) | (with_reducible refine Ext.drew ?_) | (with_reducible refine Ext.alloc ?_ _) | ((with_reducible refine Ext.setCell ?_ ?_ _); rotate_left; focus (first | (simp; done) | (simp; omega) | omega)) | assumption | (with_reducible refine Ext.trans ?_ (by assumption)))) rfl (by kernel_rfl) (by kernel_rfl) (seqB_of (by kernel_rfl)) (lastB_of (by kernel_rfl)) ?_; simp only [List.take_succ_cons, List.take_zero, List.drop_succ_cons, List.drop_zero]; (repeat (first | (refine mix_q rfl ?_; go_big_quiet_step (fail); refine wpQuiet_nil ?_; show wpMix _ _ _ _ _ _ _) | (refine mix_s rfl ?_; go_wp2_with (((with_reducible refine (HWo.out _ (by repeat (first | (with_reducible exact Ext.refl _) | (with_reducible assumption) | (with_reducible refine Ext.drewN ?_ _) | (with_reducible refine Ext.drew ?_) | (with_reducible refine Ext.alloc ?_ _) | ((with_reducible refine Ext.setCell ?_ ?_ _); rotate_left; focus (first | (simp; done) | (simp; omega) | omega)) | (with_reducible refine Ext.trans ?_ (by with_reducible assumption))))).mono ?_); rintro e w2 ⟨rfl, hy2⟩; have hx2 : Ext W w2 := Ext.trans (by repeat (first | (with_reducible exact Ext.refl _) | (with_reducible assumption) | (with_reducible refine Ext.drewN ?_ _) | (with_reducible refine Ext.drew ?_) | (with_reducible refine Ext.alloc ?_ _) | ((with_reducible refine Ext.setCell ?_ ?_ _); rotate_left; focus (first | (simp; done) | (simp; omega) | omega)) | (with_reducible refine Ext.trans ?_ (by with_reducible assumption)))) hy2; clear hy2)); first | refine ⟨up_of (by repeat (first | (with_reducible exact Ext.refl _) | (with_reducible refine Ext.drewN ?_ _) | (with_reducible refine Ext.drew ?_) | (with_reducible refine Ext.alloc ?_ _) | ((with_reducible refine Ext.setCell ?_ ?_ _); rotate_left; focus (first | (simp; done) | (simp; omega) | omega)) | assumption | (with_reducible refine Ext.trans ?_ (by assumption)))), ?_⟩ | refine ⟨rfl, rfl, up_of (by repeat (first | (with_reducible exact Ext.refl _) | (with_reducible refine Ext.drewN ?_ _) | (with_reducible refine Ext.drew ?_) | (with_reducible refine Ext.alloc ?_ _) | ((with_reducible refine Ext.setCell ?_ ?_ _); rotate_left; focus (first | (simp; done) | (simp; omega) | omega)) | assumption | (with_reducible refine Ext.trans ?_ (by assumption)))), ?_⟩))); refine mix_nil ?_)
    have h2 := HI.out.ext hx2
    obtain ⟨nn, m1, m2⟩ := h2.mp
    obtain ⟨w3, hrun, hm3, ht3⟩ := m1.put (t := textOf (gl LL j)) (v := (k : Int)) (by omega) hsz (by omega) (by omega)
    have n9 := var_ne_map h2.v9 m1
    have n8 := var_ne_map h2.v8 m1
    have H2 := Lib.hid h2
    have HM3 := Lib.hid hm3
    have HT3 := Lib.hid ht3
    have HM1 := Lib.hid m1
    clear h2 hm3 ht3 m1 c9 c8
    go_wp2_with fail
    exact bodyPost_end (v := .tuple #[]) (by simp [results, Try.results37, go_sem]) rfl ⟨rfl, ⟨⟨nn + 1, by rw [HS2.out, ← List.append_assoc]; exact HM3.out, by omega⟩, H2.out.ex.touch HT3.out hmb, (HT3.out.block p9 H2.out.v9.lt n9).trans H2.out.v9, (HT3.out.block p8 H2.out.v8.lt n8).trans H2.out.v8⟩, Nat.le_trans hx2.le HT3.out.size, fun b hb hne => (HT3.out.block b (by have := hx2.le; omega) hne).trans (Below.block hx2 b hb)⟩
end Go.Proofs.Ytbcfbkhbangeoaa

/- Walks: candidates sorted. -/
namespace Go.Proofs.Ytbcfbkhbangeoaa
set_option maxRecDepth 100000
open Go.RowKit

/-- the cells of candidates -/
def encC (ps : List (ByteArray × Int)) : List Value := (ps.map fun p => [Value.string p.1, Value.int .i64 p.2]).flatten
theorem und_cands : Try.prog.underlying 27 = some (.slice 59) := Try.underlying27
theorem info_cand : (Try.prog.info? 59).map (fun i => (i.zero, i.size, i.bytes)) = some (some (.agg #[.string .empty, .int .i64 0]), 2, 24) := by kernel_rfl
theorem lit2_cell (w : World) (E : TypeId) (v0 v1 : Value) (ad0 : Addr) (ha : some (⟨w.heap.size, 0, none⟩ : Addr) = some ad0) (j : Nat) (u : Value) (hj : [v0, v1][j]? = some u) : (w.alloc (.cells #[v0, v1] E)).cell? (ad0.add j) = some u := by
  have h := World.ownsRow_lit (e := E) (size := 2) (base := w.heap.size) w #[v0, v1] 1 (Nat.le_refl _) (by unfold maxLen; omega) (by simp)
  cases ha
  exact World.ownsRow.cells (g := w.heap.size) h rfl j u hj
theorem cmpB_neg : ∀ (a b : List UInt8), Lib.compareBytes a b < 0 ↔ a < b
  | [], [] => by simp [Lib.compareBytes]
  | [], _ :: _ => by simp [Lib.compareBytes]
  | _ :: _, [] => by simp [Lib.compareBytes]
  | x :: a, y :: b => by
    rw [List.cons_lt_cons_iff, Lib.compareBytes]
    by_cases h1 : x < y
    · simp [h1]
    · by_cases h2 : y < x
      · have h3 : x ≠ y := fun e => by subst e; exact UInt8.lt_irrefl _ h2
        simp [h1, h2, h3]
      · have h3 : x = y := UInt8.le_antisymm (UInt8.not_lt.1 h2) (UInt8.not_lt.1 h1)
        subst h3
        simp [h1, cmpB_neg a b]
/-- the order of candidates: by the words -/
def cfC (x y : ByteArray × Int) : Int := Lib.compareBytes x.1.data.toList y.1.data.toList
def encP (x : ByteArray × Int) : List Value := [Value.string x.1, Value.int .i64 x.2]
theorem lt_cfC (x y : ByteArray × Int) : ltOf cfC x y = lessS x.1 y.1 := by
  unfold ltOf cfC
  rw [Bool.eq_iff_iff, decide_eq_true_eq, cmpB_neg, lessS_lt]
theorem less_nn {a b c : ByteArray} (h : lessS a b = false) (k : lessS b c = false) : lessS a c = false := by
  cases hac : lessS a c
  · rfl
  · by_cases e1 : a = b
    · subst e1; rw [hac] at k; exact k
    · by_cases e2 : b = c
      · subst e2; rw [hac] at h; exact h
      · have := less_asymm (less_trans (less_tri k e2) (less_tri h e1))
        rw [hac] at this; exact this
theorem swoC : Sort.SWO (ltOf cfC) :=
  ⟨fun x => by rw [lt_cfC]; exact less_irrefl _, fun x y z h k => by rw [lt_cfC] at h k ⊢; exact less_trans h k, fun x y z h k => by rw [lt_cfC] at h k ⊢; exact less_nn h k⟩
theorem encC_at : ∀ (ps : List (ByteArray × Int)) (t : Nat), t < ps.length * 2 → (encC ps)[t]? = some ((encP (ps[t / 2]!))[t % 2]!)
  | [], t, h => by simp at h
  | p :: r, 0, _ => by simp [encC, encP]
  | p :: r, 1, _ => by simp [encC, encP]
  | p :: r, t + 2, h => by
    have e : encC (p :: r) = Value.string p.1 :: Value.int .i64 p.2 :: encC r := by simp [encC]
    rw [e, show (t + 2) / 2 = t / 2 + 1 by omega, show (t + 2) % 2 = t % 2 by omega]
    simpa using encC_at r t (by simp at h; omega)
theorem encC_len (ps : List (ByteArray × Int)) : (encC ps).length = ps.length * 2 := by
  induction ps with
  | nil => rfl
  | cons p r ih => rw [show encC (p :: r) = Value.string p.1 :: Value.int .i64 p.2 :: encC r by simp [encC]]; simp [ih]; omega
theorem encC_flat (ps : List (ByteArray × Int)) : (Sort.flatK encP 2 ps.toArray).toList = encC ps := by
  apply List.ext_getElem?
  intro t
  by_cases ht : t < ps.length * 2
  · rw [encC_at ps t ht, Array.getElem?_toList, Array.getElem?_eq_getElem (by simpa using ht)]
    have h := Sort.get_flatK encP 2 ps.toArray t (by simpa using ht)
    rw [getElem!_pos _ t (by simpa using ht)] at h
    rw [h]; simp
  · rw [List.getElem?_eq_none (show (Sort.flatK encP 2 ps.toArray).toList.length ≤ t by simp; omega), List.getElem?_eq_none (by rw [encC_len]; omega)]
theorem cmp_cands (x y : ByteArray × Int) (W : World) : Calls Try.prog 41 #[.agg #[.string x.1, .int .i64 x.2], .agg #[.string y.1, .int .i64 y.2]] W fun e w' => e = .returned (.int .i64 (cfC x y)) ∧ ∃ q os', w' = Sort.grow (W.drewN q) os' := by
  have hcon := fun W' => Try.strings_Compare x.1 y.1 W'
  unfold cfC
  generalize Lib.compareBytes x.1.data.toList y.1.data.toList = r at hcon ⊢
  go_enter Try.func41, Try.ntmps41
  go_wp2_with (go_at_call 42; refine (hcon _).mono ?_; rintro e w' ⟨rfl, rfl⟩)
  go_ret
  exact ⟨rfl, 0, _, by rw [Sort.alloc_eq_grow, Sort.alloc_eq_grow, Sort.grow_grow]; rfl⟩
theorem putCells_len (F c : Array Value) : (Sort.putCells id 0 F c).size = c.size := by simp [Sort.putCells]
theorem take_putFlat (F cur : Array Value) (h : F.size ≤ cur.size) : (Sort.putCells id 0 F cur).toList.take F.size = F.toList := by
  apply List.ext_getElem?
  intro j
  by_cases hj : j < F.size
  · rw [List.getElem?_take_of_lt hj, Array.getElem?_toList, Array.getElem?_toList]
    simp [Sort.putCells, hj, show j < cur.size by omega]
  · rw [List.getElem?_take_eq_none (by omega), List.getElem?_eq_none (by simp; omega)]
theorem holdsS {s : Nat} {w : World} {B g n cap : Nat} {E : TypeId} {F : Array Value} (h : OwnS s w B E (some ⟨g, 0, none⟩) n cap F.toList) (hs : F.size = n * s) : Sort.Holds id w g 0 F := by
  intro j hj
  refine ⟨?_, by rw [Nat.zero_add]; exact World.ownsRow.frozenAt h j⟩
  rw [Nat.zero_add, World.ownsRow.cellAt h j (by omega), Array.getElem?_toList, Array.getElem?_eq_getElem hj, getElem!_pos F j hj]; rfl
theorem heap_sortedS {w : World} {g n : Nat} {os : Array Obj} {cur : Array Value} {e : TypeId} {fr : Nat × Nat} (F : Array Value) (hb : w.heap[g]? = some (.cells cur e fr)) :
    (Sort.grow (Sort.putRow id (Sort.ahead w n) g 0 F) os).heap[g]? = some (.cells (Sort.putCells id 0 F cur) e fr) := by
  have hg : g < w.heap.size := (Array.getElem?_eq_some_iff.1 hb).1
  rw [Sort.heap_grow_old _ _ (by simpa using hg)]
  simp [Sort.putRow, Sort.mapBlock, Sort.ahead, Array.getElem?_modify, hb, Sort.onCells]
theorem grownBy_sortedS {w : World} {g n : Nat} {os : Array Obj} (F : Array Value) : w.grownBy (Sort.grow (Sort.putRow id (Sort.ahead w n) g 0 F) os) (some g) := by
  refine ⟨rfl, rfl, rfl, by simp, fun k hk hne => ?_⟩
  rw [Sort.heap_grow_old _ _ (by simpa using hk)]
  have : g ≠ k := fun e => hne (by rw [e])
  simp [Sort.putRow, Sort.mapBlock, Sort.ahead, Array.getElem?_modify, this]
theorem ownS_sorted {s : Nat} {w : World} {B g cap n m : Nat} {E : TypeId} {os : Array Obj} {vs : List Value} {F : Array Value} (h : OwnS s w B E (some ⟨g, 0, none⟩) m cap vs) (hs : F.size = m * s) :
    OwnS s (Sort.grow (Sort.putRow id (Sort.ahead w n) g 0 F) os) B E (some ⟨g, 0, none⟩) m cap F.toList := by
  rcases h.2 with ⟨h0, _⟩ | ⟨g', cap', cur, hv, hB, hg, h1, h2, h3, h4⟩
  · cases h0
  · simp only [Value.slice.injEq, Option.some.injEq, Addr.mk.injEq, and_true, true_and] at hv
    obtain ⟨rfl, rfl⟩ := hv
    refine ⟨by simp [hs], .inr ⟨g, cap, _, rfl, hB, heap_sortedS F hg, h1, h2, by rw [putCells_len, h3], ?_⟩⟩
    rw [← hs]; exact take_putFlat F cur (by rw [hs, h3]; exact Nat.mul_le_mul_right _ h1)
theorem isAgg_cand : ∀ w, (isAgg 59).run Try.prog w = .ok true w := fun w => by kernel_rfl
theorem sizeOf_cand : ∀ w, (Go.sizeOf 59).run Try.prog w = .ok 2 w := fun w => by kernel_rfl
set_option maxHeartbeats 1000000 in
theorem sort_cands (g B cap : Nat) (ps : List (ByteArray × Int)) (w : World) (h : OwnS 2 w B 59 (some ⟨g, 0, none⟩) ps.length cap (encC ps)) (hn : ps.length ≤ 1000000) :
    Calls Try.prog 40 #[.slice (some ⟨g, 0, none⟩) ps.length cap, .func (.func 41) #[] #[]] w
      (fun e w' => e = .returned (.tuple #[]) ∧ w.grownBy w' (some g) ∧ ∃ qs : List (ByteArray × Int), qs.Perm ps ∧ qs.Pairwise (fun x y => lessS y.1 x.1 = false) ∧ OwnS 2 w' B 59 (some ⟨g, 0, none⟩) qs.length cap (encC qs)) := by
  have eg : ∀ args w, (callFunc 41 args).run Try.prog w = .ok (.enter 41 args) w := enters_of Try.func41 (by kernel_rfl) rfl
  have hF : (Sort.flatK encP 2 ps.toArray).toList = encC ps := encC_flat ps
  have hH : Sort.HoldsK encP 2 w g 0 ps.toArray := holdsS (by rw [hF]; exact h) (by simp)
  have hblk : g < w.heap.size := (World.ownsRow.lt h g rfl).2
  have hcon := AnyQ.slices_SortFunc Try.laysSF 2 isAgg_cand sizeOf_cand encP (fun _ => rfl) (fun x v hv => by simp [encP] at hv; rcases hv with rfl | rfl <;> rfl) cfC swoC 41 #[] g 0 cap ps.toArray w eg (fun _ _ _ _ x y => cmp_cands x y _) hH hblk (by simp; omega)
  refine hcon.mono ?_
  rintro e w' ⟨rfl, d', n, os, hp, hs, rfl⟩
  have hsz : d'.size = ps.length := by simpa using hp.1
  have hlen : d'.toList.length = ps.length := by simpa using hsz
  refine ⟨rfl, grownBy_sortedS _, d'.toList, ?_, ?_, ?_⟩
  · have h2 := hp.2.2
    simpa [hsz, Array.extract_eq_self_of_le] using h2
  · rw [List.pairwise_iff_getElem]
    intro i j hi hj hij
    have h2 := hs i j (Nat.zero_le _) hij (by simpa [hsz] using hj)
    rw [lt_cfC, getElem!_pos d' i (by simpa using hi), getElem!_pos d' j (by simpa using hj)] at h2
    simpa using h2
  · have e : (Sort.flatK encP 2 d').toList = encC d'.toList := by simpa using encC_flat d'.toList
    rw [← e, hlen]
    exact ownS_sorted h (by simp [hsz])
/-- the candidates of what is laid: every key once, with the value laid last, ascending -/
def IsC (L ps : List (ByteArray × Int)) : Prop := ps.Pairwise (fun x y => lessS x.1 y.1 = true) ∧ ∀ t v, (t, v) ∈ ps ↔ (t ∈ L.map Prod.fst ∧ v = valK L t 0)
theorem IsC.uniq : ∀ {ps qs : List (ByteArray × Int)}, ps.Pairwise (fun x y => lessS x.1 y.1 = true) → qs.Pairwise (fun x y => lessS x.1 y.1 = true) → (∀ p, p ∈ ps ↔ p ∈ qs) → ps = qs
  | [], [], _, _, _ => rfl
  | [], q :: s, _, _, h => by have := (h q).2 (by simp); cases this
  | p :: r, [], _, _, h => by have := (h p).1 (by simp); cases this
  | p :: r, q :: s, h1, h2, h => by
    rw [List.pairwise_cons] at h1 h2
    have hpq : p = q := by
      have a := (h p).1 (by simp)
      have b := (h q).2 (by simp)
      rcases List.mem_cons.1 a with rfl | a
      · rfl
      · rcases List.mem_cons.1 b with rfl | b
        · rfl
        · have x := h1.1 q b
          have y := h2.1 p a
          rw [less_asymm x] at y; cases y
    subst hpq
    rw [IsC.uniq h1.2 h2.2 (fun x => ⟨fun hx => ?_, fun hx => ?_⟩)]
    · rcases List.mem_cons.1 ((h x).1 (List.mem_cons_of_mem _ hx)) with rfl | h'
      · have := h1.1 x hx; rw [less_irrefl] at this; cases this
      · exact h'
    · rcases List.mem_cons.1 ((h x).2 (List.mem_cons_of_mem _ hx)) with rfl | h'
      · have := h2.1 x hx; rw [less_irrefl] at this; cases this
      · exact h'
theorem IsC.eq {L ps qs : List (ByteArray × Int)} (h : IsC L ps) (k : IsC L qs) : ps = qs := IsC.uniq h.1 k.1 fun p => (h.2 p.1 p.2).trans (k.2 p.1 p.2).symm
theorem valK_mem {L : List (ByteArray × Int)} {t : ByteArray} (h : t ∈ L.map Prod.fst) (z z' : Int) : valK L t z = valK L t z' := by
  induction L generalizing z z' with
  | nil => simp at h
  | cons p r ih =>
    have e : ∀ z, valK (p :: r) t z = valK r t (if p.1 = t then p.2 else z) := fun _ => rfl
    rw [e, e]
    by_cases hp : p.1 = t
    · rw [if_pos hp, if_pos hp]
    · rw [if_neg hp, if_neg hp]
      refine ih ?_ _ _
      rw [List.map_cons, List.mem_cons] at h
      rcases h with h | h
      · exact absurd h.symm hp
      · exact h
theorem valK_not {L : List (ByteArray × Int)} {t : ByteArray} (h : t ∉ L.map Prod.fst) (z : Int) : valK L t z = z := by
  induction L generalizing z with
  | nil => rfl
  | cons p r ih =>
    rw [List.map_cons, List.mem_cons, not_or] at h
    have e : valK (p :: r) t z = valK r t (if p.1 = t then p.2 else z) := rfl
    rw [e, if_neg (fun e => h.1 e.symm)]
    exact ih h.2 z
theorem data_inj {a b : ByteArray} (h : a.data.toList = b.data.toList) : a = b := by
  cases a; cases b; simp only at h; congr; exact Array.toList_inj.1 h
/-- what the range has collected, sorted -/
theorem collected_isC {Dm : DataW Unit} {left : Lit → Bool} {L ps qs : List (ByteArray × Int)} (hat : ∀ (s : ByteArray) (z : Int), Dm.atKey (.string s.data.toList) (.lit (.int .i64 z)) = .lit (.int .i64 (valK L s z)))
    (hc : Collected Dm left (ps.map fun p => p.1.data.toList)) (hl : ∀ k, left k = false) (hv : ∀ p ∈ ps, ∀ z : Int, Dm.atKey (.string p.1.data.toList) (.lit (.int .i64 z)) = .lit (.int .i64 p.2))
    (hp : qs.Perm ps) (hs : qs.Pairwise fun x y => lessS y.1 x.1 = false) : IsC L qs := by
  have hval : ∀ p ∈ ps, ∀ z, valK L p.1 z = p.2 := fun p hp z => by
    have h := hv p hp z
    rw [hat] at h
    simpa using h
  have hin : ∀ p ∈ ps, p.1 ∈ L.map Prod.fst := fun p hp => by
    by_cases h : p.1 ∈ L.map Prod.fst
    · exact h
    · have a := hval p hp p.2
      have b := hval p hp (p.2 + 1)
      rw [valK_not h] at a b
      omega
  have hkey : ∀ t, t ∈ L.map Prod.fst → ∃ v, (t, v) ∈ ps := fun t ht => by
    have h : Maps.has Dm (.string t.data.toList) = true := by
      cases h : Maps.has Dm (.string t.data.toList)
      · have a := (Maps.atKey_of_not_has h (.lit (.int .i64 0))).symm.trans (hat t 0)
        have b := (Maps.atKey_of_not_has h (.lit (.int .i64 1))).symm.trans (hat t 1)
        rw [valK_mem ht 1 0] at b
        rw [← a] at b
        simp at b
      · rfl
    have h2 := (hc.2 t.data.toList).2 ⟨h, hl _⟩
    obtain ⟨p, hp, he⟩ := List.mem_map.1 h2
    exact ⟨p.2, by rw [← data_inj he]; exact hp⟩
  have hnd : (qs.map fun p => p.1.data.toList).Nodup := (hp.map _).nodup_iff.2 hc.1
  refine ⟨?_, fun t v => ?_⟩
  · have h2 : qs.Pairwise fun x y => x.1.data.toList ≠ y.1.data.toList := List.pairwise_map.1 hnd
    exact (hs.and h2).imp fun ⟨h, hne⟩ => less_tri h fun e => hne (by rw [e])
  · rw [hp.mem_iff]
    constructor
    · intro h
      exact ⟨hin _ h, (hval _ h 0).symm⟩
    · rintro ⟨h, rfl⟩
      obtain ⟨v, hv'⟩ := hkey t h
      rw [hval _ hv' 0]; exact hv'
end Go.Proofs.Ytbcfbkhbangeoaa

/- Walks: the candidates of all kinds, in the program. -/
namespace Go.Proofs.Ytbcfbkhbangeoaa
set_option maxRecDepth 100000
open Go.RowKit

theorem wrongN_le (k base : Nat) (ds : List Int) : ∀ m, (wrongN k base ds m).length ≤ m * (base + 1)
  | 0 => by simp [wrongN]
  | m + 1 => by
    have h1 := wrongN_le k base ds m
    have h2 := chgL_le k base ((ds.drop m).take (lenK k))
    rw [wrongN_step, List.length_append, Nat.succ_mul]
    unfold wrongR
    rw [List.length_map]; omega
theorem wrongL_le (k base : Nat) (ds : List Int) (hb : base ≤ 36) (hd : ds.length ≤ 20) : (wrongL k base ds).length ≤ 1000 := by
  have h1 := wrongN_le k base ds (ds.length + 1 - lenK k)
  have h2 : (ds.length + 1 - lenK k) * (base + 1) ≤ 21 * 37 := Nat.mul_le_mul (by omega) (by omega)
  unfold wrongL; omega
def rowK (D : Ch) (base : Nat) (ds : List Int) (k : Nat) : List (ByteArray × Int) := if kindB k base then putsK D k (wrongL k base ds) (wrongL k base ds).length else []
/-- what is laid for the kinds from m on, the last kind first -/
def putsF (D : Ch) (base : Nat) (ds : List Int) (m : Nat) : List (ByteArray × Int) := ((List.range (6 - m)).map fun r => rowK D base ds (5 - r)).flatten
theorem putsF_step (D : Ch) (base : Nat) (ds : List Int) {k : Nat} (hk : k ≤ 5) : putsF D base ds k = putsF D base ds (k + 1) ++ rowK D base ds k := by
  unfold putsF
  rw [show 6 - k = (6 - (k + 1)) + 1 by omega, List.range_succ, List.map_append, List.flatten_append]
  have e : 5 - (5 - k) = k := by omega
  simp [e]
theorem word_facts {D : Ch} {s : ByteArray} (h : wordCh D s = true) : DigC D (digC s) ∧ (digC s).length = D.places.length := by
  obtain ⟨h1, h2, _⟩ := wordCh_t h
  exact ⟨h1, (digC_len s).trans h2⟩
def cellZ (v : Value) (W : World) : Nat := match v with
  | .pointer (some a) => (match W.cell? a with | some x => (intOf x + 1).toNat | none => 0)
  | _ => 0
theorem cellZ_at {W : World} {p : Nat} {T : TypeId} {x : Int} (h : VarAt W p T (.int .i64 x)) : cellZ (.pointer (some ⟨p, 0, none⟩)) W = (x + 1).toNat := by
  unfold cellZ; simp only [h.cell]; simp [intOf]
set_option maxHeartbeats 8000000 in
/-- one kind: all its candidates are laid -/
theorem cand_kind (D : Ch) (hok : OkCh D) (bs : Nat) (hbs : D.base = (bs : Int)) (q p9 p8 mb : Nat) (k : Nat) (hk : k ≤ 5) (hkb : kindB k bs = true) (L0 : List (ByteArray × Int)) (N0 : Nat) (w0 : World) (a : Option Addr) (n c : Nat) (a' : Option Addr) (n' c' : Nat) (hch : ChAt w0 q D a n c a' n' c') (hmb : w0.heap.size ≤ mb) (hN : N0 ≤ 10000)
    (da : Option Addr) (dn dc : Nat) (ds : List Int) (hd : Ints w0 da dn dc ds) (hdc : DigC D ds) (hdl : ds.length = D.places.length) (W : World) (hi : CaI D q p9 p8 mb k (wrongL k bs ds) L0 N0 w0 0 W) :
    Calls Try.prog 36 #[.int .i64 k, .int .i64 bs, .slice da dn dc, .func (.func 37) #[] #[.pointer (some ⟨q, 0, none⟩), .pointer (some ⟨p9, 0, none⟩), .pointer (some ⟨p8, 0, none⟩)]] W
      (fun e w' => e = .returned (.tuple #[]) ∧ CaI D q p9 p8 mb k (wrongL k bs ds) L0 N0 w0 (wrongL k bs ds).length w' ∧ W.heap.size ≤ w'.heap.size) := by
  have hb36 : bs ≤ 36 := by have := hok.b36; omega
  have hp20 := hok.p20
  have hle := wrongL_le k bs ds hb36 (by omega)
  have h5 : k ≤ 4 ∨ 10 ≤ bs := by
    simp only [kindB, Bool.or_eq_true, decide_eq_true_eq] at hkb
    omega
  have hdg : ∀ t ∈ wrongL k bs ds, t.length = D.places.length ∧ DigC D t := fun t ht => by
    obtain ⟨h1, h2⟩ := wrong_dig (fun x hx => by have := hdc x hx; omega) h5 ht
    exact ⟨h1.trans hdl, fun x hx => by have := h2 x hx; omega⟩
  refine impl_wrong k bs hk hb36 37 #[.pointer (some ⟨q, 0, none⟩), .pointer (some ⟨p9, 0, none⟩), .pointer (some ⟨p8, 0, none⟩)] da dn dc ds (fun _ b => b = mb) (fun j W => CaI D q p9 p8 mb k (wrongL k bs ds) L0 N0 w0 j W) W (by have := hd.len; omega)
    ⟨fun _ _ => rfl, fun j W W' h hx => ⟨h.ext hx, fun b hb => hb⟩, fun j W b h hb => by obtain ⟨nn, m1, _⟩ := h.mp; rw [hb]; exact m1.lt, fun j W ta tn tc hj h ht _ => ?_⟩ (fun j W h => hd.ext h.ex) hi
  exact (cand_step D hok q p9 p8 mb k hk (wrongL k bs ds) L0 N0 w0 a n c a' n' c' hch hmb (by omega) hdg j W ta tn tc hj h ht).mono fun e w' ⟨h1, h2, h3, h4⟩ => ⟨h1, h2, h3, fun b hb hne => ⟨h4 b hb hne, hne⟩⟩
theorem cand_world (w : World) (mb p8 : Nat) (hmb : mb = w.heap.size) (hp8 : p8 = mb + 1) (w4 : World) (h : w4 = ((w.alloc (.map #[] 0)).alloc (.cells #[.map (some mb)] 65)).alloc (.cells #[.int .i64 5] 2)) :
    Ext w w4 ∧ KMap w4 mb 0 [] ∧ VarAt w4 p8 65 (.map (some mb)) ∧ VarAt w4 (p8 + 1) 2 (.int .i64 5) := by
  obtain ⟨w1, h1⟩ : ∃ W, W = w.alloc (.map #[] 0) := ⟨_, rfl⟩
  have s1 : w1.heap.size = w.heap.size + 1 := by rw [h1]; simp
  obtain ⟨w2, h2⟩ : ∃ W, W = w1.alloc (.cells #[.map (some mb)] 65) := ⟨_, rfl⟩
  have s2 : w2.heap.size = p8 + 1 := by rw [h2, hp8, hmb, ← s1]; simp
  rw [← h1, ← h2] at h
  have x1 : Ext w w1 := by rw [h1]; exact (Ext.refl _).alloc _
  have x2 : Ext w1 w2 := by rw [h2]; exact (Ext.refl _).alloc _
  have x3 : Ext w2 w4 := by rw [h]; exact (Ext.refl _).alloc _
  refine ⟨(x1.trans x2).trans x3, ((show KMap w1 mb 0 [] by rw [h1, hmb]; exact KMap.made w).ext x2).ext x3, ?_, ?_⟩
  · have e : p8 = w1.heap.size := by rw [s1, hp8, hmb]
    rw [e]
    exact (show VarAt w2 w1.heap.size 65 (.map (some mb)) by rw [h2]; exact VarAt.new _ _ _).ext x3
  · rw [← s2, h]; exact VarAt.new _ _ _
/-- where the kinds are through -/
def CutK (D : Ch) (bs : Nat) (ds : List Int) (p8 mb : Nat) (w0 : World) (wx : World) : Prop := VarAt wx p8 65 (.map (some mb)) ∧ (∃ nn, KMap wx mb nn (putsF D bs ds 0) ∧ nn ≤ 6000) ∧ Ext w0 wx
/-- the candidates of a word, and whether there are any to be had -/
def RetCd (D : Ch) (s : ByteArray) (w : World) (e : Ending) (w' : World) : Prop := ∃ (ad : Option Addr) (c : Nat) (ps : List (ByteArray × Int)), e = .returned (.tuple #[.slice ad ps.length c, .bool (runOk D s)]) ∧ Ext w w' ∧ OwnS 2 w' w.heap.size 59 ad ps.length c (encC ps) ∧ (runOk D s = false → ps = []) ∧ (runOk D s = true → ∀ bs : Nat, D.base = (bs : Int) → IsC (putsF D bs (digC s) 0) ps)
theorem RetCd.yes {D : Ch} {s : ByteArray} {w w' : World} {ad : Option Addr} {c : Nat} {ps : List (ByteArray × Int)} (h : runOk D s = true) (hx : Ext w w') (ho : OwnS 2 w' w.heap.size 59 ad ps.length c (encC ps)) (hc : ∀ bs : Nat, D.base = (bs : Int) → IsC (putsF D bs (digC s) 0) ps) : RetCd D s w (.returned (.tuple #[.slice ad ps.length c, .bool true])) w' :=
  ⟨ad, c, ps, by rw [h], hx, ho, fun e => (by rw [h] at e; cases e), fun _ => hc⟩
theorem RetCd.no {D : Ch} {s : ByteArray} {w w' : World} (h : runOk D s = false) (hx : Ext w w') : RetCd D s w (.returned (.tuple #[.slice none 0 0, .bool false])) w' :=
  ⟨none, 0, [], by rw [h]; rfl, hx, World.ownsRow_nil _ _ _ _, fun _ => rfl, fun e => by rw [h] at e; cases e⟩
set_option maxHeartbeats 8000000 in
theorem impl_Cand (D : Ch) (a : Option Addr) (n c : Nat) (a' : Option Addr) (n' c' : Nat) (s : ByteArray) (w : World) (hts : Cube w a n c D.tabs) (hps : Ints w a' n' c' D.places) (hn : n ≤ 1048576) (hn' : n' ≤ 1048576) (hsm : SmallCh D) (hs : s.size ≤ 1048576) :
    Calls Try.prog 8 #[.agg #[.int .i64 D.base, .int .i64 D.states, .int .i64 D.start, .int .i64 D.fin, .slice a n c, .slice a' n' c'], .string s] w (RetCd D s w) := by
  have hmm := @run_makeMap Try.prog
  have HVC := Lib.hid (fun W (h : Ext w W) => impl_ValidChain D a n c a' n' c' W (hts.ext h) (hps.ext h) hn hn' hsm)
  have HB := Lib.hid (ch_box w D a n c a' n' c' 30 hts hps)
  cases hv : validCh D
  · rw [hv] at HVC
    have HF := Lib.hid (show runOk D s = false by rw [runOk, hv]; rfl)
    clear hv hts hps hmm HB
    go_enter Try.func8, Try.ntmps8
    go_wp2_with fail
    obtain ⟨wb, hwb⟩ : ∃ W, W = w.alloc (.cells #[.int .i64 D.base, .int .i64 D.states, .int .i64 D.start, .int .i64 D.fin, .slice a n c, .slice a' n' c'] 30) := ⟨_, rfl⟩
    have hxb : Ext w wb := by rw [hwb]; exact (by repeat (first | (with_reducible exact Ext.refl _) | (with_reducible refine Ext.drewN ?_ _) | (with_reducible refine Ext.drew ?_) | (with_reducible refine Ext.alloc ?_ _) | ((with_reducible refine Ext.setCell ?_ ?_ _); rotate_left; focus (first | (simp; done) | (simp; omega) | omega)) | assumption | (with_reducible refine Ext.trans ?_ (by assumption))))
    rw [← hwb]
    clear hwb
    refine (HVC.out wb hxb).mono ?_
    rintro e w1 ⟨rfl, hx1⟩
    have HX := Lib.hid (hxb.trans hx1)
    clear hxb hx1
    go_wp2_with fail
    go_ret2
    exact RetCd.no HF.out HX.out
  rw [hv] at HVC
  have hok := validCh_ok hv
  have HVt := Lib.hid hv
  obtain ⟨bs, hbs⟩ : ∃ bs : Nat, D.base = (bs : Int) := Int.eq_ofNat_of_zero_le (by have := hok.b2; omega)
  have HOk := Lib.hid hok
  have HBs := Lib.hid hbs
  have hb36 : bs ≤ 36 := by have := hok.b36; omega
  clear hv hts hps hbs hok
  go_enter Try.func8, Try.ntmps8
  go_wp2_with fail
  obtain ⟨q, hq⟩ : ∃ q, q = w.heap.size := ⟨_, rfl⟩
  obtain ⟨wb, hwb⟩ : ∃ W, W = w.alloc (.cells #[.int .i64 D.base, .int .i64 D.states, .int .i64 D.start, .int .i64 D.fin, .slice a n c, .slice a' n' c'] 30) := ⟨_, rfl⟩
  have hxb : Ext w wb := by rw [hwb]; exact (by repeat (first | (with_reducible exact Ext.refl _) | (with_reducible refine Ext.drewN ?_ _) | (with_reducible refine Ext.drew ?_) | (with_reducible refine Ext.alloc ?_ _) | ((with_reducible refine Ext.setCell ?_ ?_ _); rotate_left; focus (first | (simp; done) | (simp; omega) | omega)) | assumption | (with_reducible refine Ext.trans ?_ (by assumption))))
  rw [← hwb, ← hq] at HB
  rw [← hwb, ← hq]
  clear hwb hq
  have HX := Lib.hid hxb
  clear hxb
  refine (HVC.out wb HX.out).mono ?_
  rintro e w1 ⟨rfl, hx1⟩
  have HA1 := Lib.hid (HB.out.ext hx1)
  have HX1 := Lib.hid (HX.out.trans hx1)
  have HWd := Lib.hid (impl_chWord D q a n c a' n' c' s w1 (HB.out.ext hx1) hs)
  clear hx1
  cases hw : wordCh D s
  · rw [hw] at HWd
    have HF := Lib.hid (show runOk D s = false by rw [runOk, hw, Bool.and_false])
    clear hw HB HVC HX HBs HOk hmm
    go_wp2_with fail
    refine HWd.out.mono ?_
    rintro e w2 ⟨da, dn, dc, rfl, hx2, _⟩
    have HX2 := Lib.hid (HX1.out.trans hx2)
    clear hx2 HX1 HA1 HWd
    go_wp2_with fail
    go_ret2
    exact RetCd.no HF.out HX2.out
  have hwd := word_facts hw
  have HRun := Lib.hid (show runOk D s = true by rw [runOk, hw, HVt.out]; rfl)
  rw [hw] at HWd
  have HDs := Lib.hid hwd
  clear hw hwd
  go_wp2_with fail
  refine HWd.out.mono ?_
  rintro e w2 ⟨da, dn, dc, rfl, hx2, ho2⟩
  have hd2 := (ho2 rfl)
  have HD2 := Lib.hid (show Ints w2 da dn dc (digC s) from hd2.sl)
  have HDn := Lib.hid (show dn = (digC s).length from (hd2.len.symm.trans (I_len _)))
  have HA2 := Lib.hid (HA1.out.ext hx2)
  have HX2 := Lib.hid (HX1.out.trans hx2)
  clear hd2 hx2 ho2 HB HVC HX HA1 HX1 HWd
  go_upto_block 0 with fail
  obtain ⟨mb, hmb⟩ : ∃ m, m = w2.heap.size := ⟨_, rfl⟩
  obtain ⟨p8, hp8⟩ : ∃ m, m = mb + 1 := ⟨_, rfl⟩
  obtain ⟨w4, hw4⟩ : ∃ W, W = ((w2.alloc (.map #[] 0)).alloc (.cells #[.map (some mb)] 65)).alloc (.cells #[.int .i64 5] 2) := ⟨_, rfl⟩
  obtain ⟨hx4, hm4, v8, v9⟩ := cand_world w2 mb p8 hmb hp8 w4 hw4
  have hmb2 : w2.heap.size ≤ mb := by omega
  have HM4 := Lib.hid hm4
  have HX4 := Lib.hid hx4
  have HV8 := Lib.hid v8
  have HV9 := Lib.hid v9
  rw [← hmb, ← hw4, ← hp8]
  clear hw4 hmb hp8 hx4 hm4 v8 v9
  go_cut [8] from 24 to 39 (fun v8 wx => v8 = .pointer (some ⟨p8, 0, none⟩) ∧ CutK D bs (digC s) p8 mb w2 wx)
  case first =>
    go_wp2_with fail
    go_loopw [9] (fun u9 wr => ∃ (m p9 : Nat) (x : Int), u9 = .pointer (some ⟨p9, 0, none⟩) ∧ m ≤ 6 ∧ x = (m : Int) - 1 ∧ Hid (VarAt wr p9 2 (.int .i64 x)) ∧ Hid (VarAt wr p8 65 (.map (some mb))) ∧ Hid (∃ nn, KMap wr mb nn (putsF D bs (digC s) m) ∧ nn ≤ (6 - m) * 1000) ∧ Hid (Ext w2 wr)) (fun u9 wr => cellZ u9 wr)
    case atStart => exact ⟨6, _, 5, rfl, Nat.le_refl _, rfl, HV9.out, HV8.out, ⟨0, by have : putsF D bs (digC s) 6 = [] := rfl; rw [this]; exact HM4.out, by omega⟩, HX4.out⟩
    case round =>
      clear HM4 HX4 HV8 HV9
      obtain ⟨m, p9, x, rfl, hm6, hxm, HV9, HV8, HM, HXr⟩ := hrel
      by_cases hm0 : 0 < m
      · obtain ⟨k, rfl⟩ : ∃ k, m = k + 1 := ⟨m - 1, by omega⟩
        obtain rfl : x = (k : Int) := by omega
        clear hxm
        have c9 := HV9.out.cell
        have c8 := HV8.out.cell
        have HA := Lib.hid (HA2.out.ext HXr.out)
        have cb := HA.out.c0 wr (Ext.refl _)
        have HKd := Lib.hid (fun W => impl_kindOk k (by omega) D.base W)
        have HSt := Lib.hid (putsF_step D bs (digC s) (show k ≤ 5 by omega))
        have hkd : kindB k D.base = kindB k (bs : Int) := by rw [HBs.out]
        cases hkb : kindB k (bs : Int)
        · rw [hkd, hkb] at HKd
          have hrow : rowK D bs (digC s) k = [] := by unfold rowK; rw [hkb]; rfl
          have HRw := Lib.hid hrow
          clear hkb hkd hrow
          go_wp2_with (go_at_call 35; (with_reducible refine (HKd.out _).mono ?_); rintro e w5 ⟨rfl, rfl⟩)
          obtain ⟨w6, hw6⟩ : ∃ W, W = wr.alloc (.cells #[.int .i64 ((k : Int) - 1)] 2) := ⟨_, rfl⟩
          have hx6 : Ext wr w6 := by rw [hw6]; exact (Ext.refl _).alloc _
          have v9 : VarAt w6 wr.heap.size 2 (.int .i64 ((k : Int) - 1)) := by rw [hw6]; exact VarAt.new _ _ _
          rw [← hw6]
          obtain ⟨nn, m1, m2⟩ := HM.out
          refine ⟨⟨k, wr.heap.size, (k : Int) - 1, rfl, by omega, rfl, v9, HV8.out.ext hx6, ⟨nn, by rw [HSt.out, HRw.out, List.append_nil]; exact m1.ext hx6, by omega⟩, HXr.out.trans hx6⟩, by rw [cellZ_at v9, cellZ_at HV9.out]; omega⟩
        · rw [hkd, hkb] at HKd
          have hrow : rowK D bs (digC s) k = putsK D k (wrongL k bs (digC s)) (wrongL k bs (digC s)).length := by unfold rowK; rw [hkb]; rfl
          have HRw := Lib.hid hrow
          have hC0 : CaI D q p9 p8 mb k (wrongL k bs (digC s)) (putsF D bs (digC s) (k + 1)) ((6 - (k + 1)) * 1000) w2 0 wr := by
            obtain ⟨nn, m1, m2⟩ := HM.out
            exact ⟨⟨nn, by unfold putsK; simpa using m1, by omega⟩, HXr.out, HV9.out, HV8.out⟩
          have HKi := Lib.hid (cand_kind D HOk.out bs HBs.out q p9 p8 mb k (by omega) hkb (putsF D bs (digC s) (k + 1)) ((6 - (k + 1)) * 1000) w2 a n c a' n' c' HA2.out hmb2 (by omega) da dn dc (digC s) HD2.out HDs.out.1 HDs.out.2 wr hC0)
          rw [← HBs.out] at HKi
          have hle := wrongL_le k bs (digC s) hb36 (by rw [HDs.out.2]; exact HOk.out.p20)
          have HLe := Lib.hid hle
          clear hkb hkd hrow hC0 hle
          go_wp2_with (first
            | (go_at_call 35; (with_reducible refine (HKd.out _).mono ?_); rintro e w5 ⟨rfl, rfl⟩)
            | (go_at_call 36; (with_reducible refine HKi.out.mono ?_); rintro e w5 ⟨rfl, hi5, hs5⟩; have HI5 := Lib.hid hi5; have c9' := hi5.v9.cell; clear hi5))
          obtain ⟨w6, hw6⟩ : ∃ W, W = w5.alloc (.cells #[.int .i64 ((k : Int) - 1)] 2) := ⟨_, rfl⟩
          have hx6 : Ext w5 w6 := by rw [hw6]; exact (Ext.refl _).alloc _
          have v9 : VarAt w6 w5.heap.size 2 (.int .i64 ((k : Int) - 1)) := by rw [hw6]; exact VarAt.new _ _ _
          rw [← hw6]
          obtain ⟨nn, m1, m2⟩ := HI5.out.mp
          have hle2 := HLe.out
          refine ⟨⟨k, w5.heap.size, (k : Int) - 1, rfl, by omega, rfl, v9, HI5.out.v8.ext hx6, ⟨nn, by rw [HSt.out, HRw.out]; exact m1.ext hx6, by omega⟩, HI5.out.ex.trans hx6⟩, by rw [cellZ_at v9, cellZ_at HV9.out]; omega⟩
      · obtain rfl : m = 0 := by omega
        obtain rfl : x = -1 := by omega
        clear hxm hm0 hm6
        have c9 := HV9.out.cell
        go_wp2_with fail
        go_meet
        obtain ⟨nn, m1, m2⟩ := HM.out
        exact ⟨rfl, HV8.out, ⟨nn, m1, by omega⟩, HXr.out⟩
  case rest =>
    obtain ⟨rfl, hV8, ⟨nn, hM, hnn⟩, hX⟩ := hcut
    generalize wc = w5 at *
    have HX5 := Lib.hid (HX2.out.trans hX)
    clear HM4 HX4 HV8 HV9 hX
    obtain ⟨Dm, hown, hIs, hat⟩ := hM
    have c8 := hV8.cell
    have hlt8 := hV8.lt
    go_wp2_with (first
      | (at_range; refine wpList_range_own _ rfl _ 65 rfl 9 2 keyedStr und_mapK _ mb nn Dm rfl (hown.alloc _) ?_; intro w6 hrg0 hg0 hs0)
      | go_in)
    go_frame
    have hr1 : (w5.alloc (.cells #[] 59)).heap.size = w5.heap.size + 1 := by simp
    rw [hr1] at hrg0 hs0 ⊢
    have hbd0 : Below w5.heap.size w5 w6 := Below.grown ((Ext.refl w5).alloc _) hg0 (by rw [hr1]; omega) (fun k hk => by cases hk)
    have HO0 := Lib.hid (show OwnS 2 w6 w5.heap.size 59 (some ⟨w5.heap.size, 0, none⟩) 0 0 (encC []) from World.ownsRow.kept (own0S w5 59) hg0 (Or.inr (by simp [Value.ownBlock])))
    have HRg0 := Lib.hid hrg0
    have hmbl : mb < w5.heap.size := hown.lt
    have hszD : Maps.size Dm ≤ nn := hown.size_le
    clear hs0 hg0 hr1 hrg0
    go_loopw [10, 11, 12] (fun v10 _ _ wr => ∃ (left : Lit → Bool) (cnt : Nat) (ad : Option Addr) (cc : Nat) (ps : List (ByteArray × Int)), v10 = .slice ad ps.length cc ∧ Hid (∃ g, ad = some ⟨g, 0, none⟩) ∧ Hid (wr.ranges Try.prog 9 (plainElem Try.prog 2) mb (w5.heap.size + 1) nn Dm left cnt) ∧ Hid (OwnS 2 wr w5.heap.size 59 ad ps.length cc (encC ps)) ∧ ps.length + cnt ≤ nn ∧ Hid (Collected Dm left (ps.map fun p => p.1.data.toList)) ∧ Hid (∀ p ∈ ps, ∀ z : Int, Dm.atKey (.string p.1.data.toList) (.lit (.int .i64 z)) = .lit (.int .i64 p.2)) ∧ Hid (Below w5.heap.size w5 wr)) (fun _ _ _ wr => wr.rangeLeft mb (w5.heap.size + 1))
    case atStart => exact ⟨_, _, _, _, [], rfl, ⟨_, rfl⟩, HRg0, HO0, by simpa using hszD, Collected.start Dm, (fun p hp => by simp at hp), hbd0⟩
    case round =>
      clear HRg0 HO0 hbd0
      obtain ⟨left, cnt, ad, cc, ps, rfl, HG, HRg, HO, hcs, HC, HV, HBl⟩ := hrel
      go_wp2_with (first
        | (at_next; refine wpList_next_ranges _ rfl _ rfl 9 keyedStr (plainElem Try.prog 2) encStr (Value.int .i64) (fun key kl hk => by obtain ⟨x, hx, _⟩ := Maps.keyOf_str und_strK hk; exact ⟨x, hx⟩) (fun v y hv => by obtain ⟨c, rfl, _⟩ := plainElem_int_inv und_int64K hv; exact ⟨c, rfl⟩) mb (w5.heap.size + 1) nn _ _ _ rfl HRg.out ?_ ?_)
        | go_in)
      · intro hc0 hl0
        obtain ⟨g, rfl⟩ := HG.out
        have hlen : ps.length ≤ 1000000 := by omega
        have HS := Lib.hid (sort_cands g w5.heap.size cc ps _ HO.out hlen)
        clear hlen
        have hle := HBl.out.size
        have HL := Lib.hid hl0
        clear hle hl0 hc0 hcs
        go_wp2_with fail
        refine HS.out.mono ?_
        rintro e w8 ⟨rfl, hg8, qs, hp8, hq8, ho8⟩
        have HC8 := Lib.hid (collected_isC hat HC.out HL.out HV.out hp8 hq8)
        have hx8 : Ext w w8 := HX5.out.trans (Below.grown HBl.out hg8 HBl.out.size (fun k hk => by cases hk; exact (World.ownsRow.lt HO.out g rfl).1))
        have hl8 : ps.length = qs.length := hp8.length_eq.symm
        rw [hl8]
        have HO8 := Lib.hid (OwnS.mono ho8 (HX5.out.size))
        have HX8 := Lib.hid hx8
        clear hl8 hx8 ho8 hq8 hp8 hg8
        go_wp2_with fail
        go_ret2
        refine RetCd.yes HRun.out HX8.out HO8.out fun bs' hb' => ?_
        have e : bs' = bs := by have := HBs.out; omega
        rw [e]; exact HC8.out
      · intro x v kl yd yp w7 cnt7 hkey hlk hv hat7 hrg7 hlt7 hg7 hs7 hen
        obtain ⟨x', ex, rfl, hxl⟩ := Maps.keyOf_str und_strK hkey
        obtain rfl : x = x' := encStr_inj ex
        obtain ⟨t, rfl⟩ : ∃ t : ByteArray, x = t.data.toList := ⟨⟨x.toArray⟩, by simp⟩
        have henc : encStr t.data.toList = .string t := by simp [encStr]
        obtain ⟨v', e1, e2, hwf⟩ := plainElem_int_inv und_int64K hv
        simp only [Value.int.injEq, true_and] at e1
        subst e1
        simp only [Prod.mk.injEq] at e2
        obtain ⟨rfl, _⟩ := e2
        rw [henc] at hen ⊢
        have hrow7 := World.ownsRow.kept HO.out hg7 (Or.inr (row_ne_iter HO.out HRg.out).symm)
        have HC7 := Lib.hid (HC.out.step hlk hat7)
        have HV7 := Lib.hid hat7
        have HO7 := Lib.hid (show OwnS 2 w7 w5.heap.size 59 ad ps.length cc (encC ps) from hrow7)
        have HR7 := Lib.hid hrg7
        have HB7 := Lib.hid (Below.grown HBl.out hg7 HBl.out.size (fun k hk => by cases hk; omega))
        clear hs7 hrow7 hkey hlk hv hat7 hrg7 henc hxl ex
        go_wp2_with (first
          | (at_builtin; go_loud (refine law_appendsS _ rfl _ _ 27 rfl 59 (.agg #[.string .empty, .int .i64 0]) 2 24 und_cands info_cand rfl (by omega) w5.heap.size ad ps.length cc (encC ps) _ 1 1 [.string t, .int .i64 v] (fun u hu => by simp only [List.mem_cons, List.mem_nil_iff, or_false] at hu; rcases hu with rfl | rfl <;> rfl) rfl rfl (OwnS.ext HO7.out ((Ext.refl w7).alloc _)) rfl (fun ad0 ha j u hj => lit2_cell w7 _ _ _ ad0 ha j u hj) (fun e => by cases e) (Nat.le_trans HB7.out.size ((Ext.refl w7).alloc _).le) (by omega) (by omega) ?_); intro ad2 cc2 w8 ho8 hb8 hg8)
          | go_in)
        have hO7a := OwnS.ext HO7.out ((Ext.refl w7).alloc (.cells #[.string t, .int .i64 v] 59))
        have hrg8 := World.ranges.kept (World.ranges.alloc HR7.out (.cells #[.string t, .int .i64 v] 59)) hg8 (row_ne_low hO7a hmbl) (row_ne_iter hO7a (World.ranges.alloc HR7.out _))
        refine ⟨⟨_, cnt7, ad2, cc2, ps ++ [(t, v)], by rw [List.length_append]; rfl, ?_, hrg8, ?_, by rw [List.length_append]; simp; omega, ?_, ?_, ?_⟩, ?_⟩
        · rcases ho8.2 with ⟨hv, _⟩ | ⟨g, cap, cur, hv, _⟩
          · simp at hv
          · simp only [Value.slice.injEq] at hv; exact ⟨g, hv.1⟩
        · have e : encC (ps ++ [(t, v)]) = encC ps ++ [Value.string t, .int .i64 v] := by simp [encC]
          rw [Hid, e, List.length_append]; exact ho8
        · rw [Hid, List.map_append]; exact HC7.out
        · intro p hp z
          rcases List.mem_append.1 hp with hp | hp
          · exact HV.out p hp z
          · rw [List.mem_singleton] at hp; subst hp; exact HV7.out _
        · exact Below.trans (Below.trans HB7.out (Below.mono ((Ext.refl w7).alloc _) HB7.out.size)) hb8
        · rw [World.ranges.left_eq hrg8, World.ranges.left_eq HRg.out]; exact hlt7
end Go.Proofs.Ytbcfbkhbangeoaa
