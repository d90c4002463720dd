/- Walks: orders, by a set that the call makes, in the program. -/
import Derived.Test.YtaiieodllhoelaaVar
import Derived.Maps.OwnOps
import Derived.Maps.Views
import Derived.Test.YtaiieodllhoelaaAddW
import Derived.Test.YtaiieodllhoelaaWSum
import Derived.Test.YtaiieodllhoelaaKnN
import Derived.Test.YtaiieodllhoelaaWtE
namespace Go.Proofs.Ytaiieodllhoelaa
set_option maxRecDepth 100000
open Go.RowKit

/-- block b is a set of the numbers L (a map from numbers to true), of at most n -/
def BSet (w : World) (b n : Nat) (L : List Int) : Prop :=
  ∃ D : DataW Unit, w.ownsMap Try.prog 2 (plainElem Try.prog 4) b n D ∧ Maps.IsMap D ∧ ∀ x : Int, D.atKey (.int .i64 x) (.lit (.bool false)) = .lit (.bool (decide (x ∈ L)))
theorem und_boolM : Try.prog.underlying 4 = some .bool := Try.underlying4
theorem und_setM : Try.prog.underlying 186 = some (.map 2 4) := Try.underlying186
theorem keyed64 : Maps.Keyed Try.prog 2 := Maps.int_keyed und_int64
theorem zero_boolM (w : World) : (zeroValue 4).run Try.prog w = .ok (.bool false) w := by kernel_rfl
theorem BSet.made (w : World) : BSet (w.alloc (.map #[] 0)) w.heap.size 0 [] :=
  ⟨.map [], World.ownsMap_made _ _ _ _, Maps.isMap_empty, fun x => by simp [DataW.atKey]⟩
theorem BSet.drew {w : World} {b n : Nat} {L : List Int} (h : BSet w b n L) : BSet w.drew b n L := by
  obtain ⟨D, h1, h2, h3⟩ := h
  exact ⟨D, h1.drew, h2, h3⟩
theorem BSet.lt {w : World} {b n : Nat} {L : List Int} (h : BSet w b n L) : b < w.heap.size := by
  obtain ⟨D, h1, _, _⟩ := h
  exact h1.lt
theorem wf64 {x : Int} (h0 : 0 ≤ x) (h1 : x ≤ 9223372036854775807) : (Lit.int .i64 x).wf = true := by
  simp [Lit.wf, IntKind.min, IntKind.max, IntKind.signed, IntKind.bits]; omega
theorem BSet.look {w : World} {b n : Nat} {L : List Int} (h : BSet w b n L) {y : Int} (h0 : 0 ≤ y) (h1 : y ≤ 9223372036854775807) :
    (Instr.lookup 186 (.map (some b)) (.int .i64 y) false).run Try.prog w = .ok (.bool (decide (y ∈ L))) w := by
  obtain ⟨D, hD, _, hat⟩ := h
  obtain ⟨v, ps, hrun, hv⟩ := hD.lookup keyed64 und_setM (zero_boolM w) (plainElem_bool und_boolM false) (Maps.keyOf_int_mk und_int64 (wf64 h0 h1))
  rw [hat y] at hv
  have hvb : v = .bool (decide (y ∈ L)) := by
    unfold plainElem at hv
    rw [und_boolM] at hv
    cases v <;> simp at hv
    rw [hv.1]
  subst hvb
  exact hrun
theorem BSet.put {w : World} {b n : Nat} {L : List Int} (h : BSet w b n L) (hn : n < 1048576) {y : Int} (h0 : 0 ≤ y) (h1 : y ≤ 9223372036854775807) :
    ∃ w', (Instr.mapUpdate 186 (.map (some b)) (.int .i64 y) (.bool true)).run Try.prog w = .ok () w' ∧ BSet w' b (n + 1) (L ++ [y]) ∧ Below b w w' := by
  obtain ⟨D, hD, hI, hat⟩ := h
  have hkl : WideAt.IsKeyLit (.int .i64 y) := by simp [WideAt.IsKeyLit]
  obtain ⟨w', hrun, hown, hgr⟩ := hD.update keyed64 und_setM (by unfold maxLen; omega) (Maps.keyOf_int_mk und_int64 (wf64 h0 h1)) (plainElem_bool und_boolM true)
  refine ⟨w', hrun, ⟨_, hown, hI.put _ _, fun z => ?_⟩, (Below.refl b w).grown hgr (Nat.le_of_lt hD.lt) (fun k hk => by cases hk; exact Nat.le_refl _)⟩
  by_cases hz : z = y
  · subst hz
    rw [Maps.atKey_put_same hI hkl]; simp
  · rw [Maps.atKey_put_other (by simpa using hz), hat z]; simp [hz]

def ordB (l : List Int) : Bool := decide (∀ x ∈ l, 0 ≤ x ∧ x < l.length) && decide l.Nodup
theorem ordB_range {l : List Int} {k : Nat} (hk : k < l.length) (h : ¬ (0 ≤ gi l k ∧ gi l k < l.length)) : ordB l = false := by
  cases hb : ordB l
  · rfl
  · exfalso
    unfold ordB at hb
    simp only [Bool.and_eq_true, decide_eq_true_eq] at hb
    exact h (hb.1 _ (gi_mem hk))
theorem ordB_twice {l : List Int} {k : Nat} (hk : k < l.length) (h : gi l k ∈ l.take k) : ordB l = false := by
  cases hb : ordB l
  · rfl
  · exfalso
    unfold ordB at hb
    simp only [Bool.and_eq_true, decide_eq_true_eq] at hb
    have h2 := hb.2
    rw [← List.take_append_drop (k + 1) l, take_gi hk, List.append_assoc] at h2
    have h3 := (List.nodup_append.1 h2).2.2 _ h (gi l k) (by simp)
    exact h3 rfl
theorem ordB_all {l : List Int} (h1 : ∀ x ∈ l, 0 ≤ x ∧ x < l.length) (h2 : l.Nodup) : ordB l = true := by
  unfold ordB; simp only [Bool.and_eq_true, decide_eq_true_eq]; exact ⟨h1, h2⟩
set_option maxHeartbeats 1000000 in
theorem impl_orderOf (a : Option Addr) (n c : Nat) (l : List Int) (most : Int) (w : World) (hv : Ints w a n c l) (h1 : 1 ≤ n) (hm : (n : Int) ≤ most) (hn : n ≤ 1048576) :
    Calls Try.prog 192 #[.slice a n c, .int .i64 most] w (Ret (.bool (ordB l)) w) := by
  have hmm := @run_makeMap Try.prog
  have HL := Lib.hid hv.len
  obtain ⟨b, off, hix, hcell⟩ := hv.ix (P := Try.prog) 25 2 und_int64s cell_int64
  have Hhv := Lib.hid hv; clear hv
  go_enter Try.func192, Try.ntmps192
  go_wp2_with fail
  go_loopw [11] (fun v11 wr => ∃ k : Nat, k ≤ n ∧ v11 = .int .i64 k ∧ Hid (BSet wr w.heap.size k (l.take k)) ∧ Hid ((∀ x ∈ l.take k, 0 ≤ x ∧ x < l.length) ∧ (l.take k).Nodup) ∧ Ext w wr) (fun v11 _ => n - (intOf v11).toNat)
  case atStart => exact ⟨0, Nat.zero_le _, rfl, BSet.made w, ⟨fun x hx => by simp at hx, by simp⟩, (Ext.refl _).alloc _⟩
  case round =>
    obtain ⟨k, hk, rfl, HB, HP, hx⟩ := hrel
    by_cases hlt : k < n
    · have HT := Lib.hid (take_gi (l := l) (k := k) (by rw [HL.out]; exact hlt))
      have HIn := Lib.hid (fun W => impl_in (gi l k) 0 ((n : Int) - 1) W)
      cases hin : inB (gi l k) 0 ((n : Int) - 1)
      · rw [hin] at HIn
        have HF := Lib.hid (ordB_range (l := l) (k := k) (by rw [HL.out]; exact hlt) (by rw [HL.out]; have := inB_f.1 hin; omega))
        clear hin
        go_wp2_with ((with_reducible refine (HIn.out _).mono ?_); rintro e w1 ⟨rfl, rfl⟩)
        go_ret
        exact ⟨rb HF.out.symm, hx⟩
      · rw [hin] at HIn
        have hr := inB_t.1 hin
        have hlk := HB.out.look hr.1 (by omega)
        clear hin
        by_cases hmem : gi l k ∈ l.take k
        · rw [decide_eq_true hmem] at hlk
          have HF := Lib.hid (ordB_twice (l := l) (k := k) (by rw [HL.out]; exact hlt) hmem)
          clear hmem
          go_wp2_with ((with_reducible refine (HIn.out _).mono ?_); rintro e w1 ⟨rfl, rfl⟩)
          go_ret
          exact ⟨rb HF.out.symm, hx⟩
        · rw [decide_eq_false hmem] at hlk
          obtain ⟨w7, hput, hb7, hbe7⟩ := HB.out.put (by omega) hr.1 (by omega)
          have HM := Lib.hid hmem
          have HB7 := Lib.hid hb7
          have hx7 : Ext w w7 := Ext.below hx hbe7
          clear hmem hb7 hbe7
          go_wp2_with ((with_reducible refine (HIn.out _).mono ?_); rintro e w1 ⟨rfl, rfl⟩)
          refine ⟨⟨k + 1, by omega, by go_num, by rw [Hid, HT.out]; exact HB7.out, ?_, hx7⟩, by simp [intOf]; omega⟩
          rw [Hid, HT.out]
          refine ⟨fun x hx => ?_, ?_⟩
          · rw [List.mem_append] at hx
            rcases hx with hx | hx
            · exact HP.out.1 x hx
            · simp only [List.mem_singleton] at hx; subst hx; rw [HL.out]; omega
          · rw [List.nodup_append]
            exact ⟨HP.out.2, by simp, fun x hx y hy => by simp only [List.mem_singleton] at hy; subst hy; exact fun h => HM.out (h ▸ hx)⟩
    · obtain rfl : k = n := by omega
      have h := HP.out
      rw [take_full (by rw [HL.out]; omega)] at h
      have HF := Lib.hid (ordB_all h.1 h.2)
      clear h
      go_wp2_with fail
      go_ret
      exact ⟨rb HF.out.symm, hx⟩
set_option maxHeartbeats 400000 in
theorem impl_IsOrder (a : Option Addr) (n c : Nat) (l : List Int) (w : World) (hv : Ints w a n c l) (h1 : 1 ≤ n) (hn : n ≤ 36) :
    Calls Try.prog 171 #[.slice a n c] w (Ret (.bool (ordB l)) w) := by
  have HO := Lib.hid (impl_orderOf a n c l 36 w hv h1 (by omega) (by omega))
  clear hv
  go_enter Try.func171, Try.ntmps171
  go_wp2_with ((with_reducible refine HO.out.mono ?_); rintro e w1 ⟨rfl, hx⟩)
  go_ret
  exact ⟨rfl, hx⟩
end Go.Proofs.Ytaiieodllhoelaa

/- Walks: whether the orders of a system are orders, in the program. -/
namespace Go.Proofs.Ytaiieodllhoelaa
set_option maxRecDepth 100000
open Go.RowKit

theorem idx_geR {p : Nat → Bool} {n : Nat} : decide (idx p (List.range n) ≥ 0) = (List.range n).any p := by
  rcases idx_cases (p := p) (n := n) with ⟨h, h2⟩ | ⟨j, hj, h, h2, _⟩
  · rw [h, List.any_eq_false.2 fun x hx => by rw [h2 x (List.mem_range.1 hx)]; simp]; rfl
  · rw [h, List.any_eq_true.2 ⟨j, List.mem_range.2 hj, h2⟩]; simp
set_option maxHeartbeats 400000 in
theorem containsFunc_rows2 (a : Option Addr) (n c : Nat) (vs : List Value) (f : Nat) (caps : Array Value) (p : Nat → Bool) (w : World) (hv : Sl w a n c vs) (hn : n ≤ 4611686018427387904)
    (he : ∀ args w', (callFunc f args).run Try.prog w' = .ok (.enter f args) w') (hf : ∀ k, k < n → ∀ w', Ext w w' → Calls Try.prog f (#[gv vs k] ++ caps) w' (Ret (.bool (p k)) w')) :
    Calls Try.prog 169 #[.slice a n c, .func (.func f) #[] caps] w (Ret (.bool ((List.range n).any p)) w) := by
  have HC := Lib.hid (indexFunc_rows2 a n c vs f caps p w hv hn he hf)
  have HA := Lib.hid (idx_geR (p := p) (n := n))
  clear hv he hf
  go_enter Try.func169, Try.ntmps169
  go_wp2_with (refine HC.out.mono ?_; rintro e w' ⟨rfl, hx2⟩)
  go_ret
  exact ⟨rb HA.out, hx2⟩
set_option maxHeartbeats 400000 in
theorem valPer1 (a : Option Addr) (n c : Nat) (l : List Int) (p : Nat) (w : World) (hi : Ints w a n c l) (hp : w.cell? ⟨p, 0, none⟩ = some (.int .i64 n)) (h1 : 1 ≤ n) (h36 : n ≤ 36) :
    Calls Try.prog 170 (#[.slice a n c] ++ #[.pointer (some ⟨p, 0, none⟩)]) w (Ret (.bool (!ordB l)) w) := by
  have HO := Lib.hid (impl_IsOrder a n c l w hi h1 h36)
  clear hi
  go_enter Try.func170, Try.ntmps170
  go_wp2_with ((with_reducible refine HO.out.mono ?_); rintro e w1 ⟨rfl, hx⟩)
  go_ret
  exact ⟨rfl, hx⟩
def ordsB (ls : List (List Int)) : Bool := ls.all ordB
theorem ords_any {ls : List (List Int)} : (!(List.range ls.length).any fun k => !ordB (gl ls k)) = ordsB ls := by
  unfold ordsB
  rw [← List.all_eq_not_any_not]
  rw [Bool.eq_iff_iff, List.all_eq_true, List.all_eq_true]
  refine ⟨fun h l hl => ?_, fun h k hk => h _ ?_⟩
  · obtain ⟨k, hk, rfl⟩ := List.mem_iff_getElem.1 hl
    have := h k (List.mem_range.2 hk)
    rwa [gl_get hk] at this
  · rw [gl_get (List.mem_range.1 hk)]; exact List.getElem_mem _
set_option maxHeartbeats 2000000 in
theorem impl_ValidPermuting (base target : Int) (a : Option Addr) (n c : Nat) (ls : List (List Int)) (w : World) (hm : Mat w a n c ls) (hok : AddOk base base target ls) :
    Calls Try.prog 126 #[.agg #[.int .i64 base, .int .i64 target, .slice a n c]] w (Ret (.bool (ordsB ls)) w) := by
  have hln : ls.length = n := hm.len
  have hb2 := hok.b2
  have hb36 := hok.b36
  have h1 := hok.n1
  have h20 := hok.n20
  have HBs := Lib.hid (fun W => impl_base base W)
  rw [show baseB base = true from by unfold baseB; exact inB_t.2 ⟨hb2, hb36⟩] at HBs
  have HIt := Lib.hid (fun W => impl_in target 0 (base - 1) W)
  rw [show inB target 0 (base - 1) = true from inB_t.2 ⟨hok.t0, by have := hok.t1; omega⟩] at HIt
  have HIn := Lib.hid (fun W => impl_in (n : Int) 1 20 W)
  rw [show inB (n : Int) 1 20 = true from inB_t.2 (by omega)] at HIn
  have HPw := Lib.hid (fun W => impl_power base 1000000000000000 n W (by omega) (by omega) (by omega) (by omega) (by omega))
  rw [show decide (base ^ n ≤ 1000000000000000) = true from decide_eq_true (by have := hok.pw; rwa [hln] at this)] at HPw
  have HAny := Lib.hid (ords_any (ls := ls))
  rw [hln] at HAny
  obtain ⟨vs, hvs, hrw⟩ := hm.rows
  have HLen := Lib.hid hok.len
  have HCf := Lib.hid (fun (W : World) (p : Nat) (hx : Ext w W) (hp : ∀ W', Ext W W' → W'.cell? ⟨p, 0, none⟩ = some (.int .i64 base)) =>
    containsFunc_rows2 a n c vs 170 #[.pointer (some ⟨p, 0, none⟩)] (fun k => !ordB (gl ls k)) W (hvs.ext hx) (by omega) (fun _ _ => rfl) (fun k hk W' hx' => by
      obtain ⟨a', n', c', hv, hi⟩ := hrw k hk
      have hl := HLen.out (gl ls k) (by rw [gl_get (by omega)]; exact List.getElem_mem _)
      have hil := hi.len
      rw [hv]
      exact valPer1 a' n' c' (gl ls k) p W' (hi.ext (hx.trans hx')) (by rw [hp W' hx']; congr 2; omega) (by omega) (by omega)))
  clear hm hok hvs hrw
  go_enter Try.func126, Try.ntmps126
  go_wp2_with fail
  obtain ⟨p, hp⟩ : ∃ p, p = w.heap.size := ⟨_, rfl⟩
  obtain ⟨wz, hwz⟩ : ∃ W, W = w.alloc (.cells #[.int .i64 base, .int .i64 target, .slice a n c] 76) := ⟨_, rfl⟩
  have hxz : Ext w wz := by rw [hwz]; exact (by repeat (first | (with_reducible exact Ext.refl _) | (with_reducible refine Ext.drewN ?_ _) | (with_reducible refine Ext.drew ?_) | (with_reducible refine Ext.alloc ?_ _) | ((with_reducible refine Ext.setCell ?_ ?_ _); rotate_left; focus (first | (simp; done) | (simp; omega) | omega)) | assumption | (with_reducible refine Ext.trans ?_ (by assumption))))
  have HP := Lib.hid (show SAt wz p 76 #[.int .i64 base, .int .i64 target, .slice a n c] from by rw [hwz, hp]; exact (SAt.new' w #[.int .i64 base, .int .i64 target, .slice a n c] 76 rfl))
  rw [← hwz, ← hp]
  clear hwz hp
  have q0 : ∀ W', Ext wz W' → W'.cell? ⟨p, 0, none⟩ = some (.int .i64 base) := fun W' hx => hx.cell (HP.out.cell 0 (by simp))
  have q1 : ∀ W', Ext wz W' → W'.cell? ⟨p, 1, none⟩ = some (.int .i64 target) := fun W' hx => hx.cell (HP.out.cell 1 (by simp))
  have q2 : ∀ W', Ext wz W' → W'.cell? ⟨p, 2, none⟩ = some (.slice a n c) := fun W' hx => hx.cell (HP.out.cell 2 (by simp))
  have HC := Lib.hid (HCf.out wz p hxz q0)
  have r0 := q0 wz (Ext.refl _)
  have r1 := q1 wz (Ext.refl _)
  have r2 := q2 wz (Ext.refl _)
  go_wp2_with (first | ((with_reducible refine (HBs.out _).mono ?_); rintro e w1 ⟨rfl, rfl⟩) | ((with_reducible refine (HIt.out _).mono ?_); rintro e w1 ⟨rfl, rfl⟩) | ((with_reducible refine (HIn.out _).mono ?_); rintro e w1 ⟨rfl, rfl⟩) | ((with_reducible refine (HPw.out _).mono ?_); rintro e w1 ⟨rfl, rfl⟩) | ((with_reducible refine HC.out.mono ?_); rintro e w5 ⟨rfl, hx5⟩))
  go_ret
  exact ⟨rb HAny.out, hxz.trans hx5⟩
end Go.Proofs.Ytaiieodllhoelaa

/- Walks: the permuting system of a weighting, in the program. -/
namespace Go.Proofs.Ytaiieodllhoelaa
set_option maxRecDepth 100000
open Go.RowKit

def modD (b : Int) (l : List Int) (d : Nat) : List Int := (l.take d).map (· % b) ++ l.drop d
theorem modD_len {b : Int} {l : List Int} {d : Nat} : (modD b l d).length = l.length := by
  unfold modD; rw [List.length_append, List.length_map, ← List.length_append, List.take_append_drop]
theorem modD_gi {b : Int} {l : List Int} {d : Nat} (h : d < l.length) : gi (modD b l d) d = gi l d := by
  rw [gi_get (by rw [modD_len]; exact h), gi_get h]
  unfold modD
  rw [List.getElem_append_right (by rw [List.length_map, List.length_take]; omega)]
  simp [List.length_take, Nat.min_eq_left (show d ≤ l.length by omega)]
theorem modD_set {b : Int} {l : List Int} {d : Nat} (h : d < l.length) : (modD b l d).set d (gi l d % b) = modD b l (d + 1) := by
  unfold modD
  have hl : ((l.take d).map (· % b)).length = d := by rw [List.length_map, List.length_take]; omega
  rw [List.set_append_right _ _ (by omega), hl, Nat.sub_self, take_gi h, List.map_append, List.append_assoc, List.drop_eq_getElem_cons h, List.set_cons_zero]
  rfl
theorem modD_full {b : Int} {l : List Int} {d : Nat} (h : l.length ≤ d) : modD b l d = l.map (· % b) := by
  unfold modD; rw [List.take_of_length_le h, List.drop_eq_nil_of_le h, List.append_nil]
theorem modD_zero {b : Int} {l : List Int} : modD b l 0 = l := by simp [modD]
theorem ownP_some {w : World} {B : Nat} {E : TypeId} {a : Option Addr} {n c : Nat} {vs : List Value} (h : Own w B E a n c vs) (hn : 0 < n) : ∃ g, a = some ⟨g, 0, none⟩ := by
  rcases h.2 with ⟨h1, _⟩ | ⟨g, cap, cur, hv, _⟩
  · omega
  · simp only [Value.slice.injEq] at hv; exact ⟨g, hv.1⟩
theorem ownMat_setB {W : World} {B : Nat} {E1 E0 : TypeId} {a : Option Addr} {n c : Nat} {ll : List (List Int)} (h : OwnMat W B E1 E0 a n c ll) {p : Addr} (hp : p.block < B) (u : Value) : OwnMat (W.setCell p u) B E1 E0 a n c ll :=
  h.keepB fun r h1 _ => Below.heap_setCell W p u r (by omega)
/-- the system of permutations of a weighting, if they are orders -/
def RetPer (X : Wt) (w : World) (e : Ending) (w' : World) : Prop :=
  ∃ (v1 v2 : Int) (pa : Option Addr) (pn pc : Nat), e = .returned (.tuple #[.agg #[.int .i64 v1, .int .i64 v2, .slice pa pn pc], .bool (ordsB (peL X))]) ∧ (ordsB (peL X) = true → v1 = X.base ∧ v2 = X.target ∧ Mat w' pa pn pc (peL X)) ∧ Ext w w'
set_option maxHeartbeats 4000000 in
theorem impl_PermutingOf (X : Wt) (a : Option Addr) (n c : Nat) (w : World) (hw : Ints w a n c X.weights) (hval : validB X = true) (hm : X.modulus = X.base) :
    Calls Try.prog 58 #[.agg #[.int .i64 X.base, .int .i64 X.modulus, .int .i64 X.target, .slice a n c]] w (RetPer X w) := by
  have HOK := Lib.hid (peL_ok hval hm)
  have HLn := Lib.hid hw.len
  have hb := validB_base hval
  have hl := validB_len hval
  rw [HLn.out] at hl
  have HSm := Lib.hid (show ∀ x ∈ X.weights, 0 ≤ x ∧ x ≤ 36 from validB_small hval)
  obtain ⟨bs, hbs⟩ := Int.eq_ofNat_of_zero_le (show 0 ≤ X.base by omega)
  have hbs36 : 2 ≤ bs ∧ bs ≤ 36 := by omega
  have HVa := Lib.hid (fun W (h : Ext w W) => impl_valid X a n c W (hw.ext h))
  rw [hval, hm] at HVa
  obtain ⟨bW, oW, hixW, hcellW⟩ := hw.ix (P := Try.prog) 25 2 und_int64s cell_int64
  have HWe := Lib.hid (fun x (hx : x ∈ X.weights) W => impl_weighed bs x W (by omega) (HSm.out x hx).1 (HSm.out x hx).2)
  have HPe := Lib.hid (show peL X = X.weights.map fun x => (wgL bs x).map (· % (bs : Int)) by unfold peL; rw [hbs, Int.toNat_natCast])
  have HVp := Lib.hid (fun W pa pc (hmat : Mat W pa n pc (peL X)) => impl_ValidPermuting X.base X.target pa n pc (peL X) W hmat HOK.out)
  rw [hm]
  unfold RetPer
  generalize X.target = tg at *
  rw [hbs] at HVa HVp ⊢
  clear hw hval hm hbs hb
  go_enter Try.func58, Try.ntmps58
  go_wp2_with fail
  obtain ⟨q1, hq1⟩ : ∃ q, q = w.heap.size := ⟨_, rfl⟩
  obtain ⟨q2, hq2⟩ : ∃ q, q = q1 + 1 := ⟨_, rfl⟩
  obtain ⟨wz, hwz⟩ : ∃ W, W = (w.alloc (.cells #[.int .i64 bs, .int .i64 bs, .int .i64 tg, .slice a n c] 72)).alloc (.cells #[.int .i64 0, .int .i64 0, .slice none 0 0] 76) := ⟨_, rfl⟩
  have hxz : Ext w wz := by rw [hwz]; exact (by repeat (first | (with_reducible exact Ext.refl _) | (with_reducible refine Ext.drewN ?_ _) | (with_reducible refine Ext.drew ?_) | (with_reducible refine Ext.alloc ?_ _) | ((with_reducible refine Ext.setCell ?_ ?_ _); rotate_left; focus (first | (simp; done) | (simp; omega) | omega)) | assumption | (with_reducible refine Ext.trans ?_ (by assumption))))
  have HQ1 := Lib.hid (show SAt wz q1 72 #[.int .i64 bs, .int .i64 bs, .int .i64 tg, .slice a n c] by rw [hwz, hq1]; exact (SAt.new' w #[.int .i64 bs, .int .i64 bs, .int .i64 tg, .slice a n c] 72 rfl).alloc _)
  have HQ2 := Lib.hid (show SAt wz q2 76 #[.int .i64 0, .int .i64 0, .slice none 0 0] by rw [hwz, hq2, hq1]; exact SAt.new' _ _ _ (by simp))
  have hqw : w.heap.size ≤ q1 := by omega
  have h12 : q1 < q2 := by omega
  rw [← hwz, ← hq1, ← hq2]
  clear hwz hq1 hq2
  have c0 : ∀ w', Ext wz w' → w'.cell? ⟨q1, 0, none⟩ = some (.int .i64 bs) := fun w' hx => hx.cell (HQ1.out.cell 0 (by simp))
  have c1 : ∀ w', Ext wz w' → w'.cell? ⟨q1, 1, none⟩ = some (.int .i64 bs) := fun w' hx => hx.cell (HQ1.out.cell 1 (by simp))
  have c2 : ∀ w', Ext wz w' → w'.cell? ⟨q1, 2, none⟩ = some (.int .i64 tg) := fun w' hx => hx.cell (HQ1.out.cell 2 (by simp))
  have c3 : ∀ w', Ext wz w' → w'.cell? ⟨q1, 3, none⟩ = some (.slice a n c) := fun w' hx => hx.cell (HQ1.out.cell 3 (by simp))
  have e0 := c0 wz (Ext.refl _)
  have e1 := c1 wz (Ext.refl _)
  have e2 := c2 wz (Ext.refl _)
  have e3 := c3 wz (Ext.refl _)
  go_wp2_with ((with_reducible refine (HVa.out _ hxz).mono ?_); rintro e w1 ⟨rfl, hx1⟩; have d0 := c0 w1 hx1; have d1 := c1 w1 hx1; have d2 := c2 w1 hx1; have d3 := c3 w1 hx1)
  obtain ⟨q4, hq4⟩ : ∃ q, q = w1.heap.size := ⟨_, rfl⟩
  obtain ⟨w4, hw4⟩ : ∃ W, W = w1.alloc (.cells #[.int .i64 bs, .int .i64 tg, .slice none 0 0] 76) := ⟨_, rfl⟩
  have hx14 : Ext w1 w4 := by rw [hw4]; exact (by repeat (first | (with_reducible exact Ext.refl _) | (with_reducible refine Ext.drewN ?_ _) | (with_reducible refine Ext.drew ?_) | (with_reducible refine Ext.alloc ?_ _) | ((with_reducible refine Ext.setCell ?_ ?_ _); rotate_left; focus (first | (simp; done) | (simp; omega) | omega)) | assumption | (with_reducible refine Ext.trans ?_ (by assumption))))
  have HQ4 := Lib.hid (show SAt w4 q4 76 #[.int .i64 bs, .int .i64 tg, .slice none 0 0] by rw [hw4, hq4]; exact SAt.new' _ _ _ rfl)
  have hx4 : Ext wz w4 := hx1.trans hx14
  have hq14 : wz.heap.size ≤ q4 := by have := hx1.le; omega
  rw [← hw4, ← hq4]
  clear hw4 hq4 d0 d1 d2 d3 hx14 hx1 e0 e1 e2 e3
  obtain ⟨B, hB⟩ : ∃ B, B = w4.heap.size := ⟨_, rfl⟩
  have hqB : q4 < B := by have := HQ4.out.lt; omega
  have hB4 : B ≤ w4.heap.size := by omega
  clear hB
  have f3 := c3 w4 hx4
  go_wp2_with fail
  go_loopw [28] (fun v28 wr => ∃ (k : Nat) (pa : Option Addr) (pc : Nat), k ≤ n ∧ v28 = .int .i64 k ∧ Hid (OwnMat wr B 25 2 pa k pc ((peL X).take k)) ∧ Hid (SAt wr q4 76 #[.int .i64 bs, .int .i64 tg, .slice pa k pc]) ∧ B ≤ wr.heap.size ∧ Ext wz wr) (fun v28 _ => n - (intOf v28).toNat)
  case atStart => exact ⟨0, none, 0, Nat.zero_le _, rfl, OwnMat.nil0 _ _ _ _, HQ4.out, hB4, hx4⟩
  case round =>
    obtain ⟨k, pa, pc, hk, rfl, HT, HQ, hBr, hxr⟩ := hrel
    by_cases hlt : k < n
    · have hkl : k < X.weights.length := by rw [HLn.out]; exact hlt
      have HMem := Lib.hid (gi_mem hkl)
      have HN := Lib.hid (show (peL X).take (k + 1) = (peL X).take k ++ [(wgL bs (gi X.weights k)).map (· % (bs : Int))] from by
        rw [HPe.out, List.take_succ_eq_append_getElem (by rw [List.length_map]; exact hkl), List.getElem_map, gi_get hkl])
      have d0 := c0 wr hxr
      have hxwr : Ext w wr := hxz.trans hxr
      have hww : Ext wr wr := Ext.refl _
      go_wp2_with ((with_reducible refine (HWe.out _ HMem.out _).mono ?_); rintro e w6 ⟨ra, rc, rfl, ho6, hy6⟩; rw [I_len, wgL_len] at ho6 ⊢; obtain ⟨g, rfl⟩ := ownP_some ho6 (by omega); have HT6 := Lib.hid (HT.out.ext hy6); have HO6 := Lib.hid ho6; have HQ6 := Lib.hid (HQ.out.ext hy6); have hx6 : Ext wz w6 := hxr.trans hy6; have hB6 : B ≤ w6.heap.size := Nat.le_trans hBr hy6.le; have hgr : wr.heap.size ≤ g := ho6.lt.1; have hyr6 : Ext wr w6 := hy6; clear ho6)
      obtain ⟨L, hL⟩ : ∃ L, L = wgL bs (gi X.weights k) := ⟨_, rfl⟩
      have HLl := Lib.hid (show L.length = bs by rw [hL, wgL_len])
      have HLb := Lib.hid (show ∀ y ∈ L, 0 ≤ y ∧ y ≤ 1000000 by rw [hL]; exact wgL_nn (HSm.out _ HMem.out).1 (HSm.out _ HMem.out).2 (by omega))
      rw [← hL] at HN HO6
      clear hL
      obtain ⟨wo, hwo⟩ : ∃ W, W = wr := ⟨_, rfl⟩
      subst hwo
      go_loopw [38] (fun v38 wr => ∃ (d : Nat), d ≤ bs ∧ v38 = .int .i64 d ∧ Hid (Own wr wo.heap.size 2 (some ⟨g, 0, none⟩) bs rc (I (modD bs L d))) ∧ Ext wo wr) (fun v38 _ => bs - (intOf v38).toNat)
      case atStart => exact ⟨0, Nat.zero_le _, rfl, by rw [Hid, modD_zero]; exact HO6.out, hyr6⟩
      case round =>
        obtain ⟨d, hd, rfl, HO, hxo⟩ := hrel
        by_cases hld : d < bs
        · obtain ⟨f1, f2, f4⟩ := own_oneJ HO.out (P := Try.prog) 25 und_int64s cell_int64 d hld (x := (d : Int)) rfl
          have HS := Lib.hid (modD_set (b := (bs : Int)) (l := L) (d := d) (by rw [HLl.out]; exact hld))
          have hbd := HLb.out (gi L d) (gi_mem (by rw [HLl.out]; exact hld))
          rw [modD_gi (by rw [HLl.out]; exact hld)] at f2
          have hgl := HO.out.lt.2
          have htm : (gi L d).tmod bs = gi L d % bs := Int.tmod_eq_emod_of_nonneg hbd.1
          generalize gi L d = y at *
          have k0 : ∀ w', Ext wr w' → w'.cell? ⟨q1, 0, none⟩ = some (.int .i64 bs) := fun w' hx => c0 w' ((hxr.trans hxo).trans hx)
          go_wp2
          (refine wp_region_upl 8 wr (by repeat (first | (with_reducible exact Ext.refl _) | (with_reducible refine Ext.drewN ?_ _) | (with_reducible refine Ext.drew ?_) | (with_reducible refine Ext.alloc ?_ _) | ((with_reducible refine Ext.setCell ?_ ?_ _); rotate_left; focus (first | (simp; done) | (simp; omega) | omega)) | assumption | (with_reducible refine Ext.trans ?_ (by assumption)))) rfl (by kernel_rfl) (by kernel_rfl) (seqB_of (by kernel_rfl)) (lastB_of (by kernel_rfl)) ?_; simp only [List.take_succ_cons, List.take_zero, List.drop_succ_cons, List.drop_zero]; (repeat (first | (refine mix_q rfl ?_; go_big_quiet_step (fail); refine wpQuiet_nil ?_; show wpMix _ _ _ _ _ _ _) | (refine mix_s rfl ?_; go_wp2_with (fail); first | refine ⟨up_of (by repeat (first | (with_reducible exact Ext.refl _) | (with_reducible refine Ext.drewN ?_ _) | (with_reducible refine Ext.drew ?_) | (with_reducible refine Ext.alloc ?_ _) | ((with_reducible refine Ext.setCell ?_ ?_ _); rotate_left; focus (first | (simp; done) | (simp; omega) | omega)) | assumption | (with_reducible refine Ext.trans ?_ (by assumption)))), ?_⟩ | refine ⟨rfl, rfl, up_of (by repeat (first | (with_reducible exact Ext.refl _) | (with_reducible refine Ext.drewN ?_ _) | (with_reducible refine Ext.drew ?_) | (with_reducible refine Ext.alloc ?_ _) | ((with_reducible refine Ext.setCell ?_ ?_ _); rotate_left; focus (first | (simp; done) | (simp; omega) | omega)) | assumption | (with_reducible refine Ext.trans ?_ (by assumption)))), ?_⟩))); refine mix_nil ?_)
          go_wp2
          refine ⟨⟨d + 1, by omega, by go_num, ?_, (Ext.setCell hxo hgr _).drew⟩, by simp [intOf]; omega⟩
          have h9 := HO.out.set d (.int .i64 (y % bs))
          rw [I_set, HS.out] at h9
          exact h9
        · obtain rfl : d = bs := by omega
          have HO7 := Lib.hid (show Own wr B 2 (some ⟨g, 0, none⟩) d rc (I (L.map (· % (d : Int)))) from by have h := HO.out; rw [modD_full (by rw [HLl.out]; exact Nat.le_refl _)] at h; exact h.mono hBr)
          have HT7 := Lib.hid (HT.out.ext hxo)
          have HQ7 := Lib.hid (HQ.out.ext hxo)
          have hB7 : B ≤ wr.heap.size := Nat.le_trans hBr hxo.le
          have hx7 : Ext wz wr := hxr.trans hxo
          have e2 := HQ7.out.cell 2 (by simp)
          simp only [List.getElem_toArray, List.getElem_cons_succ, List.getElem_cons_zero] at e2
          obtain ⟨tvs, htv, htp⟩ := HT7.out.rows
          have HTV := Lib.hid htv
          have HTP := Lib.hid htp
          clear htv htp
          go_wp2_with (at_builtin; refine law_append1 _ rfl _ _ 43 rfl 25 (.slice none 0 0) 24 und_rows info_row2 rfl B pa k pc _ _ rfl rfl rfl HTV.out hB7 (by omega) (by omega) ?_; intro pa' pc' w8 ho8 hb8 hg8; have HM8 := Lib.hid (OwnMat.push HT7.out.len HTP.out HTV.out HO7.out ho8 hg8 (by decide)); have HQ8 := Lib.hid (HQ7.out.grown hg8 (row_ne_s (HTV.out.ne_s HQ7.out (by decide)))); have hx8 : Ext wz w8 := Ext.below hx7 (Below.mono hb8 (by have := hx4.le; omega)); have hB8 : B ≤ w8.heap.size := Nat.le_trans hB7 hg8.size; have e8 := HQ8.out.cell 2 (by simp); have fr := HQ8.out.frozen 2; have hlt8 := HQ8.out.lt; simp only [List.getElem_toArray, List.getElem_cons_succ, List.getElem_cons_zero] at e8; clear ho8 hb8 hg8)
          exact ⟨⟨k + 1, pa', pc', by omega, by go_num, by rw [Hid, HN.out]; exact ownMat_setB HM8.out hqB _, HQ8.out.set 2 (.slice pa' (k + 1) pc'), by simpa [World.setCell] using hB8, hx8.setCell (by simp only; omega) _⟩, by simp [intOf]; omega⟩
    · obtain rfl : k = n := by omega
      have HTk := Lib.hid (show Mat wr pa k pc (peL X) from by have h := HT.out.mat; rwa [take_full (by rw [HPe.out, List.length_map, HLn.out]; exact Nat.le_refl _)] at h)
      have HMx := Lib.hid (HVp.out _ _ _ HTk.out)
      have r0 := HQ.out.cell 0 (by simp)
      have r1 := HQ.out.cell 1 (by simp)
      have r2 := HQ.out.cell 2 (by simp)
      simp only [List.getElem_toArray, List.getElem_cons_succ, List.getElem_cons_zero] at r0 r1 r2
      have HZw := Lib.hid (HQ2.out.ext hxr)
      have hqz : w.heap.size ≤ q2 := by omega
      clear HQ1 HQ2 HQ4 HPe HOK hixW hcellW
      cases hord : ordsB (peL X)
      · rw [hord] at HMx
        have HOrd := Lib.hid hord
        clear hord
        go_wp2_with ((with_reducible refine HMx.out.mono ?_); rintro e w8 ⟨rfl, hx8⟩; have HZ8 := Lib.hid (HZw.out.ext hx8); have z0 := HZ8.out.cell 0 (by simp); have z1 := HZ8.out.cell 1 (by simp); have z2 := HZ8.out.cell 2 (by simp); have fr := fun j => HZ8.out.frozen j; have hlt8 := HZ8.out.lt; simp only [List.getElem_toArray, List.getElem_cons_succ, List.getElem_cons_zero] at z0 z1 z2)
        refine bodyPost_ret (v := .tuple #[.agg #[.int .i64 0, .int .i64 0, .slice none 0 0], .bool false]) ?_ rfl ?_
        · simp [results, Try.results58, go_sem, z0, z1, z2]
        · refine ⟨0, 0, none, 0, 0, by rw [HOrd.out], fun h => (by rw [HOrd.out] at h; cases h), ?_⟩
          have hxw8 : Ext w w8 := (hxz.trans hxr).trans hx8
          repeat (first | with_reducible exact hxw8 | with_reducible refine Ext.setCell ?_ hqz _)
      · rw [hord] at HMx
        have HOrd := Lib.hid hord
        clear hord
        go_wp2_with ((with_reducible refine HMx.out.mono ?_); rintro e w8 ⟨rfl, hx8⟩; have HZ8 := Lib.hid (HZw.out.ext hx8); have z0 := HZ8.out.cell 0 (by simp); have z1 := HZ8.out.cell 1 (by simp); have z2 := HZ8.out.cell 2 (by simp); have fr := fun j => HZ8.out.frozen j; have hlt8 := HZ8.out.lt; have r08 := hx8.cell r0; have r18 := hx8.cell r1; have r28 := hx8.cell r2; simp only [List.getElem_toArray, List.getElem_cons_succ, List.getElem_cons_zero] at z0 z1 z2)
        refine bodyPost_ret (v := .tuple #[.agg #[.int .i64 bs, .int .i64 tg, .slice pa k pc], .bool true]) ?_ rfl ?_
        · simp [results, Try.results58, go_sem, z0, z1, z2]
        · have HT8 := Lib.hid (HT.out.ext hx8)
          have s1 := HZ8.out.set 0 (.int .i64 bs)
          have s2 := s1.set 1 (.int .i64 tg)
          have m1 := HT8.out.setS HZ8.out (by decide) (by decide) 0 (.int .i64 bs)
          have m2 := m1.setS s1 (by decide) (by decide) 1 (.int .i64 tg)
          have m3 := m2.setS s2 (by decide) (by decide) 2 (.slice pa k pc)
          have hm := m3.mat
          rw [take_full (by rw [HTk.out.len]; exact Nat.le_refl _)] at hm
          refine ⟨bs, tg, pa, k, pc, by rw [HOrd.out], fun _ => ⟨rfl, rfl, hm⟩, ?_⟩
          have hxw8 : Ext w w8 := (hxz.trans hxr).trans hx8
          repeat (first | with_reducible exact hxw8 | with_reducible refine Ext.setCell ?_ hqz _)
end Go.Proofs.Ytaiieodllhoelaa

/- Walks: the chain of permutations, by what the call that tells whether they are valid returns. -/
namespace Go.Proofs.Ytaiieodllhoelaa
set_option maxRecDepth 100000
open Go.RowKit

set_option maxHeartbeats 2000000 in
theorem impl_PermutingChain (base target : Int) (a : Option Addr) (n c : Nat) (ls : List (List Int)) (w : World) (hm : Mat w a n c ls) (hok : AddOk base base target ls)
    (hv : ∀ W, Ext w W → Calls Try.prog 126 #[.agg #[.int .i64 base, .int .i64 target, .slice a n c]] W (Ret (.bool true) W)) :
    Calls Try.prog 61 #[.agg #[.int .i64 base, .int .i64 target, .slice a n c]] w (RetChB (addCh base base target ls) w) := by
  have HM := Lib.hid hm
  have HVl := Lib.hid hv
  have HC := Lib.hid (fun W h => impl_adding base base target a n c ls W h hok)
  clear hm hok hv
  go_enter Try.func61, Try.ntmps61
  go_wp2_with fail
  obtain ⟨g, hg⟩ : ∃ g, g = w.heap.size + 1 := ⟨_, rfl⟩
  obtain ⟨p, hp⟩ : ∃ p, p = w.heap.size := ⟨_, rfl⟩
  obtain ⟨wz, hwz⟩ : ∃ W, W = (w.alloc (.cells #[.int .i64 base, .int .i64 target, .slice a n c] 76)).alloc (.cells #[.int .i64 0, .int .i64 0, .int .i64 0, .int .i64 0, .slice none 0 0, .slice none 0 0] 27) := ⟨_, rfl⟩
  have hxz : Ext w wz := by rw [hwz]; exact (by repeat (first | (with_reducible exact Ext.refl _) | (with_reducible refine Ext.drewN ?_ _) | (with_reducible refine Ext.drew ?_) | (with_reducible refine Ext.alloc ?_ _) | ((with_reducible refine Ext.setCell ?_ ?_ _); rotate_left; focus (first | (simp; done) | (simp; omega) | omega)) | assumption | (with_reducible refine Ext.trans ?_ (by assumption))))
  have HZ := Lib.hid (show SAt wz g 27 #[.int .i64 0, .int .i64 0, .int .i64 0, .int .i64 0, .slice none 0 0, .slice none 0 0] from by rw [hwz, hg]; exact SAt.new' _ _ _ (by simp))
  have HP := Lib.hid (show SAt wz p 76 #[.int .i64 base, .int .i64 target, .slice a n c] from by rw [hwz, hp]; exact (SAt.new' w #[.int .i64 base, .int .i64 target, .slice a n c] 76 rfl).alloc _)
  have hgw : w.heap.size ≤ g := by omega
  have hpz : p < wz.heap.size := HP.out.lt
  have hgz : g < wz.heap.size := HZ.out.lt
  rw [← hwz, ← hp, show p + 1 = g by omega]
  clear hwz hg hp
  go_wp2_with (first | ((with_reducible refine (HVl.out _ hxz).mono ?_); rintro e w1 ⟨rfl, hy1⟩; have HP1 := Lib.hid (HP.out.ext hy1); have HZ1 := Lib.hid (HZ.out.ext hy1); have hx1 : Ext w w1 := hxz.trans hy1; have hg1 : g < w1.heap.size := HZ1.out.lt; have hp1 : p < w1.heap.size := HP1.out.lt; have q0 := HP1.out.cell 0 (by simp); have q1 := HP1.out.cell 1 (by simp); have q2 := HP1.out.cell 2 (by simp); (try simp only [List.getElem_toArray, List.getElem_cons_succ, List.getElem_cons_zero] at q0 q1 q2)) | ((with_reducible refine (HC.out _ (HM.out.ext hx1)).mono ?_); rintro e w8 ⟨a8, x8, d8, b8, y8, g8, rfl, hch, hy8⟩; have hx8 : Ext w w8 := Ext.trans hx1 hy8; have HCh := Lib.hid hch; have HZ8 := Lib.hid (HZ1.out.ext hy8); have z0 := HZ8.out.cell 0 (by simp); have z1 := HZ8.out.cell 1 (by simp); have z2 := HZ8.out.cell 2 (by simp); have z3 := HZ8.out.cell 3 (by simp); have z4 := HZ8.out.cell 4 (by simp); have z5 := HZ8.out.cell 5 (by simp); have fr := fun j => HZ8.out.frozen j; have hltz := HZ8.out.lt; (try simp only [List.getElem_toArray, List.getElem_cons_succ, List.getElem_cons_zero] at z0 z1 z2 z3 z4 z5); clear hch))
  generalize hDD : addCh base base target ls = DD at *
  refine bodyPost_ret (v := .tuple #[.agg #[.int .i64 DD.base, .int .i64 DD.states, .int .i64 DD.start, .int .i64 DD.fin, .slice a8 x8 d8, .slice b8 y8 g8], .bool true]) ?_ rfl ?_
  · simp [results, Try.results61, go_sem, z0, z1, z2, z3, z4, z5]
  · refine ⟨a8, x8, d8, b8, y8, g8, rfl, HCh.out _ ?_, ?_⟩
    · repeat (first | with_reducible exact KeepB.refl _ _ _ | (with_reducible refine KeepB.setB ?_ _ _ (Or.inl ?_); rotate_left; (focus (simp <;> omega))))
    · repeat (first | with_reducible exact hx8 | with_reducible refine Ext.setCell ?_ hgw _)
end Go.Proofs.Ytaiieodllhoelaa
