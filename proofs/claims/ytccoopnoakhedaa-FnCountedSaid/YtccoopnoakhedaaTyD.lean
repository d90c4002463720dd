/- Walks: slices of numbers, one behind the other. -/
import Derived.Test.YtccoopnoakhedaaTyA
import Derived.Test.YtccoopnoakhedaaShelf
import Derived.Test.YtccoopnoakhedaaNear
namespace Go.Proofs.Ytccoopnoakhedaa
set_option maxRecDepth 100000
open Go.RowKit

/-- a new row with room, empty -/
theorem grow_nil (n : Nat) (w : World) (h0 : 0 < n) (hn : n ≤ 1048576) :
    Calls Try.prog 70 #[.slice none 0 0, .int .i64 n] w (fun e w' => ∃ a c, e = .returned (.slice a 0 c) ∧ Own w' w.heap.size 2 a 0 c (I []) ∧ Ext w w') := by
  obtain ⟨i, hi, hz0, hz1, hb⟩ := info_parts info_int64
  have h := Any8.slices_Grow_grow Try.laysGrow i (.int .i64 0) hi hz0 (by omega) none 0 0 n [] w (by omega) (by omega) (by rw [hb]; omega) (by omega) (by simp) (fun _ => rfl) (fun a ha => by cases ha)
  refine Calls.mono h ?_
  rintro e w' ⟨rfl, rfl⟩
  refine ⟨_, _, rfl, ?_, ?_⟩
  · have hc := grownCap_ge w (0 + n) 0 (Try.laysGrow_ren.t 25)
    have hm := grownCap_le_maxLen w (0 + n) 0 (Try.laysGrow_ren.t 25) (by unfold maxLen; omega)
    refine ⟨by simp [I], .inr ⟨w.heap.size, _, _, rfl, Nat.le_refl _, heap_alloc_new w.drew _, Nat.zero_le _, hm, ?_, by simp [I]⟩⟩
    have hz : (Value.int IntKind.i64 0).cells.size = 1 := rfl
    simp only [Array.size_append, size_zeroCells, List.size_toArray, List.length_nil, hz]
    omega
  · exact (Ext.refl _).drew.alloc _
theorem flat_step (ll : List (List Int)) {k : Nat} (h : k < ll.length) : (ll.take (k + 1)).flatten = (ll.take k).flatten ++ gl ll k := by rw [take_gl h, List.flatten_append]; simp
theorem flat_le (ll : List (List Int)) (k : Nat) : (ll.take k).flatten.length ≤ ll.flatten.length := by
  have h : ll.flatten = (ll.take k).flatten ++ (ll.drop k).flatten := by rw [← List.flatten_append, List.take_append_drop]
  rw [h, List.length_append]; omega
set_option maxHeartbeats 4000000 in
theorem concat_ints (a : Option Addr) (n c : Nat) (ll : List (List Int)) (w : World) (hv : Mat w a n c ll) (hn : n ≤ 1000) (h0 : 0 < ll.flatten.length) (h1 : ll.flatten.length ≤ 1048576) :
    Calls Try.prog 60 #[.slice a n c] w (RetOwn 2 (I ll.flatten) w) := by
  have HM := Lib.hid hv
  have HL := Lib.hid hv.len
  have HLe := Lib.hid (fun k => flat_le ll k)
  have HSt := Lib.hid (fun k (h : k < n) => flat_step ll (k := k) (by rw [HL.out]; exact h))
  clear hv
  go_enter Try.func60, Try.ntmps60
  go_wp2_with fail
  go_loopw [3, 5, 11] (fun s _ i wr => ∃ k : Nat, k ≤ n ∧ i = .int .i64 k ∧ s = .int .i64 ((ll.take k).flatten.length : Nat) ∧ Ext w wr) (fun _ _ i _ => n - (intOf i).toNat)
  case atStart => exact ⟨0, Nat.zero_le _, rfl, rfl, Ext.refl _⟩
  case round =>
    obtain ⟨k, hk, rfl, rfl, hx⟩ := hrel
    by_cases hlt : k < n
    · have hst := congrArg List.length (HSt.out k hlt)
      rw [List.length_append] at hst
      have hle := HLe.out (k + 1)
      obtain ⟨b, off, ra, rn, rc, h11, hrow⟩ := HM.out.one (P := Try.prog) 53 25 und_rows cell_row1 (k : Int) (by omega) (by omega)
      obtain ⟨hix, hcell⟩ := h11
      have hrl := hrow.len
      rw [Int.toNat_natCast] at hrl
      rw [hrl] at hst
      have hxs : (ll.take k).flatten.length + rn ≤ 1048576 := by omega
      have HS := Lib.hid hst
      generalize (ll.take k).flatten.length = x at *
      clear hst hrow hrl
      go_wp2
      exact ⟨⟨k + 1, by omega, by go_num, by rw [HS.out]; go_num, hx⟩, by simp [intOf]; omega⟩
    · obtain rfl : n = k := by omega
      have hall : (ll.take n).flatten = ll.flatten := by rw [List.take_of_length_le (by rw [HL.out]; exact Nat.le_refl _)]
      rw [hall]
      obtain ⟨N, hN⟩ : ∃ N, N = ll.flatten.length := ⟨_, rfl⟩
      rw [← hN] at h0 h1 ⊢
      have HN := Lib.hid hN
      clear hN hall
      go_wp2_with ((with_reducible refine (grow_nil N wr h0 h1).mono ?_); rintro e w1 ⟨ga, gc, rfl, ho, hx1⟩; have HO := Lib.hid ho; have hxw1 : Ext w w1 := hx.trans hx1; clear ho)
      go_loopw [6, 8, 27] (fun s _ i w2 => ∃ (k : Nat) (ga : Option Addr) (gc : Nat), k ≤ n ∧ i = .int .i64 k ∧ s = .slice ga (ll.take k).flatten.length gc ∧ Hid (Own w2 w.heap.size 2 ga (ll.take k).flatten.length gc (I (ll.take k).flatten)) ∧ Ext w w2) (fun _ _ i _ => n - (intOf i).toNat)
      case atStart => exact ⟨0, ga, gc, Nat.zero_le _, rfl, rfl, Own.mono HO.out hx.le, hxw1⟩
      case round =>
        clear HO hx1 hxw1
        obtain ⟨k, ga, gc, hk, rfl, rfl, HO, hx2⟩ := hrel
        by_cases hlt : k < n
        · have hst := HSt.out k hlt
          have hle := HLe.out (k + 1)
          rw [hst, List.length_append, ← HN.out] at hle
          obtain ⟨b, off, ra, rn, rc, h11, hrow⟩ := HM.out.one (P := Try.prog) 53 25 und_rows cell_row1 (k : Int) (by omega) (by omega)
          obtain ⟨hix, hcell⟩ := h11
          rw [Int.toNat_natCast] at hrow
          have hrl := hrow.len
          rw [hrl] at hle
          have HS := Lib.hid hst
          have HR := Lib.hid hrow
          have HRl := Lib.hid hrl
          generalize (ll.take k).flatten = x at *
          generalize gl ll k = y at *
          have hsz2 := hx2.le
          clear hst hrow hrl
          go_wp2_with (at_builtin; go_loud (refine law_appendsO _ rfl _ _ 25 rfl 2 (.int .i64 0) 8 und_int64s info_int64 rfl w.heap.size ga x.length gc (I x) ra rn rc (I y) (oneI y) rfl rfl HO.out (HR.out.ext (by repeat (first | (with_reducible exact Ext.refl _) | (with_reducible assumption) | (with_reducible refine Ext.drewN ?_ _) | (with_reducible refine Ext.drew ?_) | (with_reducible refine Ext.alloc ?_ _) | ((with_reducible refine Ext.setCell ?_ ?_ _); rotate_left; focus (first | (simp; done) | (simp; omega) | omega)) | (with_reducible refine Ext.trans ?_ (by with_reducible assumption))))) hsz2 (by omega) (by omega) ?_; intro ad' c' w3 ho3 hb3 hnn; have HO3 := Lib.hid ho3; have hx3 : Ext w w3 := Ext.below (by repeat (first | (with_reducible exact Ext.refl _) | (with_reducible assumption) | (with_reducible refine Ext.drewN ?_ _) | (with_reducible refine Ext.drew ?_) | (with_reducible refine Ext.alloc ?_ _) | ((with_reducible refine Ext.setCell ?_ ?_ _); rotate_left; focus (first | (simp; done) | (simp; omega) | omega)) | (with_reducible refine Ext.trans ?_ (by with_reducible assumption)))) hb3; clear ho3 hb3 hnn))
          refine ⟨⟨k + 1, ad', c', by omega, by go_num, ?_, ?_, hx3⟩, by simp [intOf]; omega⟩
          · rw [HS.out, List.length_append, HRl.out]
          · rw [Hid, HS.out, List.length_append, HRl.out, I_append]; exact HO3.out
        · obtain rfl : n = k := by omega
          have hall : (ll.take n).flatten = ll.flatten := by rw [List.take_of_length_le (by rw [HL.out]; exact Nat.le_refl _)]
          rw [hall] at HO ⊢
          go_wp2
          go_ret
          exact ⟨ga, gc, by rw [I_len]; rfl, by rw [I_len]; exact HO.out, hx2⟩
end Go.Proofs.Ytccoopnoakhedaa

/- Walks: what errors of a kind make of digits, at all places. -/
namespace Go.Proofs.Ytccoopnoakhedaa
set_option maxRecDepth 100000
open Go.RowKit

/-- a part of a slice, in every world that has it -/
theorem ints_sub_all {P : Program} {w : World} {a : Option Addr} {n c : Nat} {l : List Int} (h : Ints w a n c l) (T E : TypeId) (ht : P.underlying T = some (.slice E)) (he : P.cellsOf E = 1) (hel : P.elem T = E) (lo hi : Nat) (hlo : lo ≤ hi) (hn : hi ≤ n) :
    ∃ a', (∀ w' (K K' : IntKind), (Instr.sliceAt T (.slice a n c) (some (.int K lo)) (some (.int K' hi)) none).run P w' = .ok (.slice a' (hi - lo) (c - lo)) w') ∧ ∀ W, Ints W a n c l → Ints W a' (hi - lo) (c - lo) ((l.drop lo).take (hi - lo)) := by
  obtain ⟨a', h1, _⟩ := h.sub T E ht he hel lo hi hlo hn
  refine ⟨a', h1, fun W hW => ?_⟩
  obtain ⟨a2, h3, h4⟩ := hW.sub T E ht he hel lo hi hlo hn
  have e := (h1 w .i64 .i64).symm.trans (h3 w .i64 .i64)
  simp only [Result.ok.injEq, Value.slice.injEq, and_true] at e
  rw [e]; exact h4
theorem mat_lit3 (w : World) (a1 : Option Addr) (n1 c1 : Nat) (l1 : List Int) (a2 : Option Addr) (n2 c2 : Nat) (l2 : List Int) (a3 : Option Addr) (n3 c3 : Nat) (l3 : List Int) (h1 : Ints w a1 n1 c1 l1) (h2 : Ints w a2 n2 c2 l2) (h3 : Ints w a3 n3 c3 l3) :
    Mat (w.alloc (.cells #[.slice a1 n1 c1, .slice a2 n2 c2, .slice a3 n3 c3] 25)) (some ⟨w.heap.size, 0, none⟩) 3 3 [l1, l2, l3] := by
  have h := World.ownsRow_lit (e := 25) (size := 1) (base := w.heap.size) w #[.slice a1 n1 c1, .slice a2 n2 c2, .slice a3 n3 c3] 3 (Nat.le_refl _) (by unfold maxLen; omega) (by simp)
  have ho : Own (w.alloc (.cells #[.slice a1 n1 c1, .slice a2 n2 c2, .slice a3 n3 c3] 25)) w.heap.size 25 (some ⟨w.heap.size, 0, none⟩) 3 3 [.slice a1 n1 c1, .slice a2 n2 c2, .slice a3 n3 c3] := h
  refine ⟨rfl, _, ho.sl, fun k hk => ?_⟩
  have hx := (Ext.refl w).alloc (.cells #[.slice a1 n1 c1, .slice a2 n2 c2, .slice a3 n3 c3] 25)
  have h3' : k = 0 ∨ k = 1 ∨ k = 2 := by omega
  rcases h3' with rfl | rfl | rfl
  · exact ⟨a1, n1, c1, rfl, h1.ext hx⟩
  · exact ⟨a2, n2, c2, rfl, h2.ext hx⟩
  · exact ⟨a3, n3, c3, rfl, h3.ext hx⟩
set_option maxHeartbeats 4000000 in
theorem wrong1 (fd : Nat) (capsd : Array Value) (p7 p6 p9 p8 : Nat) (da : Option Addr) (dn dc : Nat) (ds : List Int) (pl n : Nat) (ta : Option Addr) (tn tc : Nat) (tt : List Int) (Q : World → Prop) (W : World)
    (v7 : VarAt W p7 67 (.func (.func fd) #[] capsd)) (v6 : VarAt W p6 25 (.slice da dn dc)) (v9 : VarAt W p9 3 (.int .i64 pl)) (v8 : VarAt W p8 3 (.int .i64 n))
    (hd : Ints W da dn dc ds) (ht : Ints W ta tn tc tt) (hpl : pl + n ≤ dn) (hdn : dn ≤ 1000) (htn : tn ≤ 1000) (h0 : 0 < dn) (hn0 : tn = n) (hed : ∀ args w', (callFunc fd args).run Try.prog w' = .ok (.enter fd args) w')
    (hdo : ∀ W' a' c', Ext W W' → Ints W' a' dn c' (ds.take pl ++ tt ++ ds.drop (pl + n)) → (∀ x, a' = some x → W.heap.size ≤ x.block) → Calls Try.prog fd (#[.slice a' dn c'] ++ capsd) W' (fun e w' => e = .returned (.tuple #[]) ∧ Q w')) :
    Calls Try.prog 59 (#[.slice ta tn tc] ++ #[.pointer (some ⟨p7, 0, none⟩), .pointer (some ⟨p6, 0, none⟩), .pointer (some ⟨p9, 0, none⟩), .pointer (some ⟨p8, 0, none⟩)]) W (fun e w' => e = .returned (.tuple #[]) ∧ Q w') := by
  subst hn0
  obtain ⟨a1, hs1, hp1⟩ := hd.pre (P := Try.prog) 25 2 und_int64s cell_int64 elem_int64s pl (by omega)
  obtain ⟨a3, hs3, hp3⟩ := hd.suf (P := Try.prog) 25 2 und_int64s cell_int64 elem_int64s (pl + tn) (by omega)
  have hdl := hd.len
  have htl := ht.len
  have hfl : ([ds.take pl, tt, ds.drop (pl + tn)] : List (List Int)).flatten = ds.take pl ++ tt ++ ds.drop (pl + tn) := by simp
  have hln : (ds.take pl ++ tt ++ ds.drop (pl + tn)).length = dn := by rw [List.length_append, List.length_append, List.length_take, List.length_drop]; omega
  have HM := Lib.hid (mat_lit3 W a1 pl dc (ds.take pl) ta tn tc tt a3 (dn - (pl + tn)) (dc - (pl + tn)) (ds.drop (pl + tn)) hp1 ht hp3)
  have HCo := Lib.hid (fun W' (h : Ext (W.alloc (.cells #[.slice a1 pl dc, .slice ta tn tc, .slice a3 (dn - (pl + tn)) (dc - (pl + tn))] 25)) W') => concat_ints (some ⟨W.heap.size, 0, none⟩) 3 3 [ds.take pl, tt, ds.drop (pl + tn)] W' (HM.out.ext h) (by omega) (by rw [hfl, hln]; exact h0) (by rw [hfl, hln]; omega))
  rw [hfl] at HCo
  unfold RetOwn at HCo
  rw [I_len, hln] at HCo
  have HDo := Lib.hid hdo
  have c7 := fun W' (h : Ext W W') => (v7.ext h).cell
  have c6 := fun W' (h : Ext W W') => (v6.ext h).cell
  have c9 := fun W' (h : Ext W W') => (v9.ext h).cell
  have c8 := fun W' (h : Ext W W') => (v8.ext h).cell
  have hWW : Ext W W := Ext.refl _
  have hs3' : ∀ w' (K : IntKind), (Instr.sliceAt 25 (.slice da dn dc) (some (.int K ((pl : Int) + (tn : Int)))) none none).run Try.prog w' = .ok (.slice a3 (dn - (pl + tn)) (dc - (pl + tn))) w' := fun w' K => by
    have h := hs3 w' K
    rwa [show ((pl + tn : Nat) : Int) = (pl : Int) + (tn : Int) by omega] at h
  clear hdo hd ht hp1 hp3 HM hs3 hfl hdl htl v7 v6 v9 v8
  go_enter Try.func59, Try.ntmps59
  (refine wp_region_upl 12 W (by repeat (first | (with_reducible exact Ext.refl _) | (with_reducible refine Ext.drewN ?_ _) | (with_reducible refine Ext.drew ?_) | (with_reducible refine Ext.alloc ?_ _) | ((with_reducible refine Ext.setCell ?_ ?_ _); rotate_left; focus (first | (simp; done) | (simp; omega) | omega)) | assumption | (with_reducible refine Ext.trans ?_ (by assumption)))) rfl (by kernel_rfl) (by kernel_rfl) (seqB_of (by kernel_rfl)) (lastB_of (by kernel_rfl)) ?_; simp only [List.take_succ_cons, List.take_zero, List.drop_succ_cons, List.drop_zero]; (repeat (first | (refine mix_q rfl ?_; go_big_quiet_step (fail); refine wpQuiet_nil ?_; show wpMix _ _ _ _ _ _ _) | (refine mix_s rfl ?_; go_wp2_with ((go_at_call 60; (with_reducible refine (HCo.out _ (by repeat (first | (with_reducible exact Ext.refl _) | (with_reducible assumption) | (with_reducible refine Ext.drewN ?_ _) | (with_reducible refine Ext.drew ?_) | (with_reducible refine Ext.alloc ?_ _) | ((with_reducible refine Ext.setCell ?_ ?_ _); rotate_left; focus (first | (simp; done) | (simp; omega) | omega)) | (with_reducible refine Ext.trans ?_ (by with_reducible assumption))))).mono ?_); rintro e w5 ⟨a5, c5, rfl, ho5, hy5⟩; have hx5 : Ext W w5 := Ext.trans (by repeat (first | (with_reducible exact Ext.refl _) | (with_reducible assumption) | (with_reducible refine Ext.drewN ?_ _) | (with_reducible refine Ext.drew ?_) | (with_reducible refine Ext.alloc ?_ _) | ((with_reducible refine Ext.setCell ?_ ?_ _); rotate_left; focus (first | (simp; done) | (simp; omega) | omega)) | (with_reducible refine Ext.trans ?_ (by with_reducible assumption)))) hy5; have HO5 := Lib.hid ho5; have hsz5 := hy5.le; clear ho5 hy5)); first | refine ⟨up_of (by repeat (first | (with_reducible exact Ext.refl _) | (with_reducible refine Ext.drewN ?_ _) | (with_reducible refine Ext.drew ?_) | (with_reducible refine Ext.alloc ?_ _) | ((with_reducible refine Ext.setCell ?_ ?_ _); rotate_left; focus (first | (simp; done) | (simp; omega) | omega)) | assumption | (with_reducible refine Ext.trans ?_ (by assumption)))), ?_⟩ | refine ⟨rfl, rfl, up_of (by repeat (first | (with_reducible exact Ext.refl _) | (with_reducible refine Ext.drewN ?_ _) | (with_reducible refine Ext.drew ?_) | (with_reducible refine Ext.alloc ?_ _) | ((with_reducible refine Ext.setCell ?_ ?_ _); rotate_left; focus (first | (simp; done) | (simp; omega) | omega)) | assumption | (with_reducible refine Ext.trans ?_ (by assumption)))), ?_⟩))); refine mix_nil ?_)
  have HDo5 := Lib.hid (HDo.out w5 a5 c5 hx5 HO5.out.ints (fun x hx => by have h1 := (HO5.out.blk x hx).1; simp at h1; omega))
  go_wp2_with ((with_reducible refine HDo5.out.mono ?_); rintro e w6 ⟨rfl, hq6⟩)
  exact bodyPost_end (v := .tuple #[]) (by simp [results, Try.results59, go_sem]) rfl ⟨rfl, hq6⟩
/-- what errors of a kind make of digits at one place, at the first places, at all places -/
def wrongR (k base : Nat) (ds : List Int) (pl : Nat) : List (List Int) := (chgL k base ((ds.drop pl).take (lenK k))).map fun t => ds.take pl ++ t ++ ds.drop (pl + lenK k)
def wrongN (k base : Nat) (ds : List Int) (m : Nat) : List (List Int) := ((List.range m).map (wrongR k base ds)).flatten
def wrongL (k base : Nat) (ds : List Int) : List (List Int) := wrongN k base ds (ds.length + 1 - lenK k)
theorem wrongN_step (k base : Nat) (ds : List Int) (m : Nat) : wrongN k base ds (m + 1) = wrongN k base ds m ++ wrongR k base ds m := by
  unfold wrongN; rw [List.range_succ, List.map_append, List.flatten_append]; simp
theorem wrongN_pre (k base : Nat) (ds : List Int) {m m' : Nat} (h : m ≤ m') : wrongN k base ds m <+: wrongN k base ds m' := by
  induction m' with
  | zero => obtain rfl : m = 0 := by omega
            exact List.prefix_refl _
  | succ m' ih =>
    by_cases e : m = m' + 1
    · subst e; exact List.prefix_refl _
    · rw [wrongN_step]; exact (ih (by omega)).trans (List.prefix_append _ _)
theorem wrong_at (k base : Nat) (ds : List Int) {pl M j : Nat} (h : pl < M) (hj : j < (chgL k base ((ds.drop pl).take (lenK k))).length) :
    (wrongN k base ds pl).length + j < (wrongN k base ds M).length ∧ gl (wrongN k base ds M) ((wrongN k base ds pl).length + j) = ds.take pl ++ gl (chgL k base ((ds.drop pl).take (lenK k))) j ++ ds.drop (pl + lenK k) := by
  obtain ⟨r, hr⟩ := wrongN_pre k base ds (show pl + 1 ≤ M from h)
  rw [wrongN_step] at hr
  have hl : (wrongR k base ds pl).length = (chgL k base ((ds.drop pl).take (lenK k))).length := by unfold wrongR; rw [List.length_map]
  rw [← hr]
  refine ⟨by rw [List.length_append, List.length_append]; omega, ?_⟩
  unfold gl
  rw [List.getD_eq_getElem?_getD, List.append_assoc, List.getElem?_append_right (by omega), Nat.add_sub_cancel_left, List.getElem?_append_left (by omega)]
  unfold wrongR
  rw [List.getElem?_map, List.getElem?_eq_getElem hj, List.getD_eq_getElem?_getD, List.getElem?_eq_getElem hj]
  rfl
/-- a function that lists are handed to, one after another: it changes nothing but blocks of its own -/
structure Cb (fd : Nat) (capsd : Array Value) (ll : List (List Int)) (Mine : World → Nat → Prop) (Inv : Nat → World → Prop) : Prop where
  ed : ∀ args w', (callFunc fd args).run Try.prog w' = .ok (.enter fd args) w'
  ext : ∀ j W W', Inv j W → Ext W W' → Inv j W' ∧ ∀ b, Mine W' b → Mine W b
  lt : ∀ j W b, Inv j W → Mine W b → b < W.heap.size
  step : ∀ j W a n c, j < ll.length → Inv j W → Ints W a n c (gl ll j) → (∀ x, a = some x → ¬ Mine W x.block) → Calls Try.prog fd (#[.slice a n c] ++ capsd) W (fun e w' => e = .returned (.tuple #[]) ∧ Inv (j + 1) w' ∧ W.heap.size ≤ w'.heap.size ∧ ∀ b, b < W.heap.size → ¬ Mine W b → w'.heap[b]? = W.heap[b]? ∧ ¬ Mine w' b)
/-- the variables of the walk over the places -/
structure WrE (fd : Nat) (capsd : Array Value) (da : Option Addr) (dn dc n pl p6 p7 p8 p9 : Nat) (Mine : World → Nat → Prop) (W : World) : Prop where
  v6 : VarAt W p6 25 (.slice da dn dc)
  v7 : VarAt W p7 67 (.func (.func fd) #[] capsd)
  v8 : VarAt W p8 3 (.int .i64 n)
  v9 : VarAt W p9 3 (.int .i64 pl)
  m6 : ¬ Mine W p6
  m7 : ¬ Mine W p7
  m8 : ¬ Mine W p8
  m9 : ¬ Mine W p9
theorem WrE.ext {fd : Nat} {capsd : Array Value} {da : Option Addr} {dn dc n pl p6 p7 p8 p9 : Nat} {Mine : World → Nat → Prop} {W W' : World} (h : WrE fd capsd da dn dc n pl p6 p7 p8 p9 Mine W) (hx : Ext W W') (hm : ∀ b, Mine W' b → Mine W b) : WrE fd capsd da dn dc n pl p6 p7 p8 p9 Mine W' :=
  ⟨h.v6.ext hx, h.v7.ext hx, h.v8.ext hx, h.v9.ext hx, fun e => h.m6 (hm _ e), fun e => h.m7 (hm _ e), fun e => h.m8 (hm _ e), fun e => h.m9 (hm _ e)⟩
theorem WrE.keep {fd : Nat} {capsd : Array Value} {da : Option Addr} {dn dc n pl p6 p7 p8 p9 : Nat} {Mine : World → Nat → Prop} {W W' : World} (h : WrE fd capsd da dn dc n pl p6 p7 p8 p9 Mine W) (hk : ∀ b, b < W.heap.size → ¬ Mine W b → W'.heap[b]? = W.heap[b]? ∧ ¬ Mine W' b) : WrE fd capsd da dn dc n pl p6 p7 p8 p9 Mine W' := by
  obtain ⟨a6, b6⟩ := hk p6 h.v6.lt h.m6
  obtain ⟨a7, b7⟩ := hk p7 h.v7.lt h.m7
  obtain ⟨a8, b8⟩ := hk p8 h.v8.lt h.m8
  obtain ⟨a9, b9⟩ := hk p9 h.v9.lt h.m9
  exact ⟨a6.trans h.v6, a7.trans h.v7, a8.trans h.v8, a9.trans h.v9, b6, b7, b8, b9⟩
set_option maxHeartbeats 8000000 in
theorem wrong_place (k base : Nat) (hk : k ≤ 5) (hb : base ≤ 36) (fd : Nat) (capsd : Array Value) (da : Option Addr) (dn dc : Nat) (ds : List Int) (Mine : World → Nat → Prop) (Inv : Nat → World → Prop) (M pl p6 p7 p8 p9 : Nat) (fa : Option Addr) (W : World)
    (hM : M = dn + 1 - lenK k) (hpl : pl + lenK k ≤ dn) (hdn : dn ≤ 1000) (hdl : ds.length = dn) (hc : Cb fd capsd (wrongN k base ds M) Mine Inv) (hdg : ∀ j W, Inv j W → Ints W da dn dc ds) (hfa : ∀ W, Ints W da dn dc ds → Ints W fa (lenK k) (dc - pl) ((ds.drop pl).take (lenK k)))
    (hi : Inv (wrongN k base ds pl).length W) (he : WrE fd capsd da dn dc (lenK k) pl p6 p7 p8 p9 Mine W) :
    Calls Try.prog 46 #[.int .i64 k, .int .i64 base, .slice fa (lenK k) (dc - pl), .func (.func 59) #[] #[.pointer (some ⟨p7, 0, none⟩), .pointer (some ⟨p6, 0, none⟩), .pointer (some ⟨p9, 0, none⟩), .pointer (some ⟨p8, 0, none⟩)]] W
      (fun e w' => e = .returned (.tuple #[]) ∧ Inv (wrongN k base ds (pl + 1)).length w' ∧ WrE fd capsd da dn dc (lenK k) pl p6 p7 p8 p9 Mine w' ∧ W.heap.size ≤ w'.heap.size) := by
  have hk1 : 1 ≤ lenK k := by unfold lenK; split <;> (try split) <;> omega
  have hfl : ((ds.drop pl).take (lenK k)).length = lenK k := by rw [List.length_take, List.length_drop]; omega
  have h := changes_all k hk base 59 #[.pointer (some ⟨p7, 0, none⟩), .pointer (some ⟨p6, 0, none⟩), .pointer (some ⟨p9, 0, none⟩), .pointer (some ⟨p8, 0, none⟩)] fa (lenK k) (dc - pl) ((ds.drop pl).take (lenK k))
    (fun i W' => Inv ((wrongN k base ds pl).length + i) W' ∧ WrE fd capsd da dn dc (lenK k) pl p6 p7 p8 p9 Mine W' ∧ W.heap.size ≤ W'.heap.size ∧ ∀ b, W.heap.size ≤ b → b < W.heap.size + 4 → ¬ Mine W' b) W hb rfl
    (fun j W' hI => hfa W' (hdg _ W' hI.1))
    (fun j W' W'' hI hx => by
      obtain ⟨h1, h2⟩ := hc.ext _ _ _ hI.1 hx
      exact ⟨h1, hI.2.1.ext hx h2, Nat.le_trans hI.2.2.1 hx.le, fun b hb1 hb2 hm => hI.2.2.2 b hb1 hb2 (h2 b hm)⟩)
    (fun _ _ => rfl)
    (fun j W' ta tn tc hj hI ht hta hsz => by
      obtain ⟨hw1, hw2⟩ := wrong_at k base ds (M := M) (show pl < M by omega) hj
      have htl : tn = lenK k := by have h1 := ht.len; rw [chgL_len hfl (gl_mem hj)] at h1; exact h1.symm
      refine wrong1 fd capsd p7 p6 p9 p8 da dn dc ds pl (lenK k) ta tn tc (gl (chgL k base ((ds.drop pl).take (lenK k))) j) _ W' hI.2.1.v7 hI.2.1.v6 hI.2.1.v9 hI.2.1.v8 (hdg _ W' hI.1) ht hpl hdn (by rw [htl]; omega) (by omega) htl hc.ed (fun W2 a2 c2 hx2 hi2 hb2 => ?_)
      obtain ⟨h1, h2⟩ := hc.ext _ _ _ hI.1 hx2
      rw [← hw2] at hi2
      refine (hc.step _ W2 a2 dn c2 hw1 h1 hi2 (fun x hx hm => by have h3 := hc.lt _ _ _ hI.1 (h2 _ hm); have h4 := hb2 x hx; omega)).mono fun e w' ⟨q1, q2, q3, q4⟩ => ⟨q1, ⟨q2, ?_, ?_, ?_⟩, ?_⟩
      · exact (hI.2.1.ext hx2 h2).keep q4
      · have := hx2.le; have := hI.2.2.1; omega
      · intro b hb1 hb2'
        have := hx2.le
        exact (q4 b (by omega) (fun hm => hI.2.2.2 b hb1 hb2' (h2 b hm))).2
      · intro b hb1 hb2'
        have := hx2.le
        exact ((q4 b (by omega) (fun hm => hI.2.2.2 b hb1 hb2' (h2 b hm))).1).trans (Below.block hx2 b (by omega)))
    ⟨hi, he, Nat.le_refl _, fun b hb1 hb2 hm => by have := hc.lt _ _ _ hi hm; omega⟩
  refine h.mono fun e w' ⟨h1, h2, h3, h4, _⟩ => ⟨h1, ?_, h3, h4⟩
  have hl : (wrongN k base ds (pl + 1)).length = (wrongN k base ds pl).length + (chgL k base ((ds.drop pl).take (lenK k))).length := by rw [wrongN_step, List.length_append]; unfold wrongR; rw [List.length_map]
  rw [hl]; exact h2
def cellN (v : Value) (W : World) : Nat := match v with
  | .pointer (some a) => (match W.cell? a with | some x => (intOf x).toNat | none => 0)
  | _ => 0
theorem cellN_at {W : World} {p : Nat} {T : TypeId} {m : Nat} (h : VarAt W p T (.int .i64 m)) : cellN (.pointer (some ⟨p, 0, none⟩)) W = m := by
  unfold cellN; simp only [h.cell]; simp [intOf]
theorem wr_world (w : World) (da : Option Addr) (dn dc fd : Nat) (capsd : Array Value) (n : Nat) (w4 : World) (h : w4 = (((w.alloc (.cells #[.slice da dn dc] 25)).alloc (.cells #[.func (.func fd) #[] capsd] 67)).alloc (.cells #[.int .i64 (n : Int)] 3)).alloc (.cells #[.int .i64 0] 3)) :
    Ext w w4 ∧ w4.heap.size = w.heap.size + 4 ∧ VarAt w4 w.heap.size 25 (.slice da dn dc) ∧ VarAt w4 (w.heap.size + 1) 67 (.func (.func fd) #[] capsd) ∧ VarAt w4 (w.heap.size + 1 + 1) 3 (.int .i64 n) ∧ VarAt w4 (w.heap.size + 1 + 1 + 1) 3 (.int .i64 (0 : Nat)) := by
  obtain ⟨w1, h1⟩ : ∃ W, W = w.alloc (.cells #[.slice da dn dc] 25) := ⟨_, rfl⟩
  have s1 : w1.heap.size = w.heap.size + 1 := by rw [h1]; simp
  obtain ⟨w2, h2⟩ : ∃ W, W = w1.alloc (.cells #[.func (.func fd) #[] capsd] 67) := ⟨_, rfl⟩
  have s2 : w2.heap.size = w.heap.size + 1 + 1 := by rw [h2, ← s1]; simp
  obtain ⟨w3, h3⟩ : ∃ W, W = w2.alloc (.cells #[.int .i64 (n : Int)] 3) := ⟨_, rfl⟩
  have s3 : w3.heap.size = w.heap.size + 1 + 1 + 1 := by rw [h3, ← s2]; simp
  rw [← h1, ← h2, ← h3] at h
  have x1 : Ext w w1 := by rw [h1]; exact (Ext.refl _).alloc _
  have x2 : Ext w1 w2 := by rw [h2]; exact (Ext.refl _).alloc _
  have x3 : Ext w2 w3 := by rw [h3]; exact (Ext.refl _).alloc _
  have x4 : Ext w3 w4 := by rw [h]; exact (Ext.refl _).alloc _
  refine ⟨((x1.trans x2).trans x3).trans x4, by rw [h]; simp [s3], ?_, ?_, ?_, ?_⟩
  · exact (((show VarAt w1 w.heap.size 25 (.slice da dn dc) by rw [h1]; exact VarAt.new _ _ _).ext x2).ext x3).ext x4
  · rw [← s1]; exact ((show VarAt w2 w1.heap.size 67 (.func (.func fd) #[] capsd) by rw [h2]; exact VarAt.new _ _ _).ext x3).ext x4
  · rw [← s2]; exact (show VarAt w3 w2.heap.size 3 (.int .i64 n) by rw [h3]; exact VarAt.new _ _ _).ext x4
  · rw [← s3, h]; exact VarAt.new _ _ _
set_option maxHeartbeats 8000000 in
theorem impl_wrong (k base : Nat) (hk : k ≤ 5) (hb : base ≤ 36) (fd : Nat) (capsd : Array Value) (da : Option Addr) (dn dc : Nat) (ds : List Int) (Mine : World → Nat → Prop) (Inv : Nat → World → Prop) (w : World)
    (hdn : dn ≤ 1000) (hc : Cb fd capsd (wrongL k base ds) Mine Inv) (hdg : ∀ j W, Inv j W → Ints W da dn dc ds) (hi : Inv 0 w) :
    Calls Try.prog 31 #[.int .i64 k, .int .i64 base, .slice da dn dc, .func (.func fd) #[] capsd] w (fun e w' => e = .returned (.tuple #[]) ∧ Inv (wrongL k base ds).length w' ∧ w.heap.size ≤ w'.heap.size) := by
  have hd := hdg 0 w hi
  have hdl := hd.len
  have HDl := Lib.hid hdl
  have HC := Lib.hid hc
  have HDg := Lib.hid hdg
  have HI := Lib.hid hi
  have hL : wrongL k base ds = wrongN k base ds (dn + 1 - lenK k) := by unfold wrongL; rw [hdl]
  have HL := Lib.hid hL
  have hk1 : 1 ≤ lenK k ∧ lenK k ≤ 3 := by unfold lenK; split <;> (try split) <;> omega
  have HEr := Lib.hid (fun W => impl_errLen k hk W)
  have HPl := Lib.hid (fun pl (h : pl + lenK k ≤ dn) => ints_sub_all (P := Try.prog) hd 25 2 und_int64s cell_int64 elem_int64s pl (pl + lenK k) (by omega) (by omega))
  have HWp := Lib.hid (fun pl p6 p7 p8 p9 fa W (h1 : pl + lenK k ≤ dn) => wrong_place k base hk hb fd capsd da dn dc ds Mine Inv (dn + 1 - lenK k) pl p6 p7 p8 p9 fa W rfl h1 hdn hdl (by rw [← hL]; exact hc) hdg)
  obtain ⟨n, hn⟩ : ∃ n, n = lenK k := ⟨_, rfl⟩
  have HN := Lib.hid hn
  rw [← hn] at hk1 HEr HPl HWp HL
  clear hd hc hdg hi hdl hL hn
  go_enter Try.func31, Try.ntmps31
  go_wp2_with ((with_reducible refine (HEr.out _).mono ?_); rintro e w1 ⟨rfl, rfl⟩)
  obtain ⟨w4, hw4⟩ : ∃ W, W = (((w.alloc (.cells #[.slice da dn dc] 25)).alloc (.cells #[.func (.func fd) #[] capsd] 67)).alloc (.cells #[.int .i64 (n : Int)] 3)).alloc (.cells #[.int .i64 0] 3) := ⟨_, rfl⟩
  obtain ⟨hx4, hsz4, v6, v7, v8, v9⟩ := wr_world w da dn dc fd capsd n w4 hw4
  have HE4 := Lib.hid (show WrE fd capsd da dn dc n 0 w.heap.size (w.heap.size + 1) (w.heap.size + 1 + 1) (w.heap.size + 1 + 1 + 1) Mine w4 from by
    have h2 := (HC.out.ext _ _ _ HI.out hx4).2
    have h3 := HC.out.lt 0 w
    exact ⟨v6, v7, v8, v9, fun e => by have := h3 _ HI.out (h2 _ e); omega, fun e => by have := h3 _ HI.out (h2 _ e); omega, fun e => by have := h3 _ HI.out (h2 _ e); omega, fun e => by have := h3 _ HI.out (h2 _ e); omega⟩)
  have HI4 := Lib.hid (HC.out.ext _ _ _ HI.out hx4).1
  rw [← hw4]
  clear hw4 v6 v7 v8 v9
  go_loopw [9] (fun u9 wr => ∃ pl p9 : Nat, u9 = .pointer (some ⟨p9, 0, none⟩) ∧ (pl + n ≤ dn + 1 ∨ pl = 0) ∧ Hid (Inv (wrongN k base ds pl).length wr) ∧ Hid (WrE fd capsd da dn dc n pl w.heap.size (w.heap.size + 1) (w.heap.size + 1 + 1) p9 Mine wr) ∧ w.heap.size ≤ wr.heap.size) (fun u9 wr => dn + 1 - cellN u9 wr)
  case atStart => exact ⟨0, _, rfl, .inr rfl, HI4.out, HE4, by omega⟩
  case round =>
    clear HI4 HE4
    obtain ⟨pl, p9, rfl, hpl, HIr, HE, hsz⟩ := hrel
    have c6 := HE.out.v6.cell
    have c7 := HE.out.v7.cell
    have c8 := HE.out.v8.cell
    have c9 := HE.out.v9.cell
    by_cases hlt : pl + n ≤ dn
    · obtain ⟨fa, hs, hfa⟩ := HPl.out pl hlt
      rw [show pl + n - pl = n by omega] at hs hfa
      have hs' : ∀ w' (K K' : IntKind), (Instr.sliceAt 25 (.slice da dn dc) (some (.int K (pl : Int))) (some (.int K' ((pl : Int) + (n : Int)))) none).run Try.prog w' = .ok (.slice fa n (dc - pl)) w' := fun w' K K' => by
        have h := hs w' K K'
        rwa [show ((pl + n : Nat) : Int) = (pl : Int) + (n : Int) by omega] at h
      have HW := Lib.hid (HWp.out pl w.heap.size (w.heap.size + 1) (w.heap.size + 1 + 1) p9 fa wr hlt hfa HIr.out HE.out)
      clear hs hfa
      go_wp2_with (go_at_call 46; (with_reducible refine HW.out.mono ?_); rintro e w5 ⟨rfl, hi5, he5, hs5⟩; have HI5 := Lib.hid hi5; have HE5 := Lib.hid he5; have c9' := he5.v9.cell; clear hi5 he5)
      obtain ⟨w6, hw6⟩ : ∃ W, W = w5.alloc (.cells #[.int .i64 ((pl : Int) + 1)] 3) := ⟨_, rfl⟩
      have hx6 : Ext w5 w6 := by rw [hw6]; exact (Ext.refl _).alloc _
      have v9 : VarAt w6 w5.heap.size 3 (.int .i64 ((pl + 1 : Nat) : Int)) := by rw [hw6]; exact VarAt.new _ _ _
      have h2 := HC.out.ext _ _ _ HI5.out hx6
      rw [← hw6]
      refine ⟨⟨pl + 1, w5.heap.size, rfl, .inl (by omega), h2.1, ⟨HE5.out.v6.ext hx6, HE5.out.v7.ext hx6, HE5.out.v8.ext hx6, v9, fun e => HE5.out.m6 (h2.2 _ e), fun e => HE5.out.m7 (h2.2 _ e), fun e => HE5.out.m8 (h2.2 _ e), fun e => by have := HC.out.lt _ _ _ HI5.out (h2.2 _ e); omega⟩, by have := hx6.le; omega⟩, by rw [cellN_at v9, cellN_at HE.out.v9]; omega⟩
    · go_wp2
      have hpe : pl = dn + 1 - n := by omega
      exact bodyPost_end (v := .tuple #[]) (by simp [results, Try.results31, go_sem]) rfl ⟨rfl, by rw [HL.out, ← hpe]; exact HIr.out, hsz⟩
theorem wrong_mem {k base : Nat} {ds t : List Int} {m : Nat} (h : t ∈ wrongN k base ds m) : ∃ pl, pl < m ∧ ∃ t', t' ∈ chgL k base ((ds.drop pl).take (lenK k)) ∧ t = ds.take pl ++ t' ++ ds.drop (pl + lenK k) := by
  unfold wrongN at h
  obtain ⟨l, hl, ht⟩ := List.mem_flatten.1 h
  obtain ⟨pl, hp, rfl⟩ := List.mem_map.1 hl
  unfold wrongR at ht
  obtain ⟨t', ht', rfl⟩ := List.mem_map.1 ht
  exact ⟨pl, List.mem_range.1 hp, t', ht', rfl⟩
theorem wrong_dig {k base : Nat} {ds t : List Int} (hd : ∀ x ∈ ds, 0 ≤ x ∧ x < (base : Int)) (h5 : k ≤ 4 ∨ 10 ≤ base) (h : t ∈ wrongL k base ds) : t.length = ds.length ∧ ∀ x ∈ t, 0 ≤ x ∧ x < (base : Int) := by
  obtain ⟨pl, hp, t', ht', rfl⟩ := wrong_mem h
  have hk1 : 1 ≤ lenK k := by unfold lenK; split <;> (try split) <;> omega
  have hfl : ((ds.drop pl).take (lenK k)).length = lenK k := by rw [List.length_take, List.length_drop]; omega
  have hl := chgL_len hfl ht'
  refine ⟨by rw [List.length_append, List.length_append, List.length_take, List.length_drop, hl]; omega, fun x hx => ?_⟩
  rcases List.mem_append.1 hx with hx | hx
  · rcases List.mem_append.1 hx with hx | hx
    · exact hd x (List.mem_of_mem_take hx)
    · exact chg_dig (fun y hy => hd y (List.mem_of_mem_drop (List.mem_of_mem_take hy))) hfl h5 ht' x hx
  · exact hd x (List.mem_of_mem_drop hx)
/-- does a chain check digits -/
def chkD (D : Ch) (t : List Int) : Bool := runS D 0 D.start t == D.fin
theorem wrongN_le (k base : Nat) (ds : List Int) : ∀ m, (wrongN k base ds m).length ≤ m * (base + 1)
  | 0 => by simp [wrongN]
  | m + 1 => by
    have h1 := wrongN_le k base ds m
    have h2 := chgL_le k base ((ds.drop m).take (lenK k))
    rw [wrongN_step, List.length_append, Nat.succ_mul]
    unfold wrongR
    rw [List.length_map]; omega
theorem wrongL_le (k base : Nat) (ds : List Int) (hb : base ≤ 36) (hd : ds.length ≤ 20) : (wrongL k base ds).length ≤ 1000 := by
  have h1 := wrongN_le k base ds (ds.length + 1 - lenK k)
  have h2 : (ds.length + 1 - lenK k) * (base + 1) ≤ 21 * 37 := Nat.mul_le_mul (by omega) (by omega)
  unfold wrongL; omega
end Go.Proofs.Ytccoopnoakhedaa
