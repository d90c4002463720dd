/- Walks: orders, by a set that the call makes, in the program. -/
import Derived.Test.YtohenfbgjjifbaaVar
import Derived.Maps.OwnOps
import Derived.Maps.Views
import Derived.Test.YtohenfbgjjifbaaW1
namespace Go.Proofs.Ytohenfbgjjifbaa
set_option maxRecDepth 100000
open Go.RowKit

/-- block b is a set of the numbers L (a map from numbers to true), of at most n -/
def BSet (w : World) (b n : Nat) (L : List Int) : Prop :=
  ∃ D : DataW Unit, w.ownsMap Try.prog 2 (plainElem Try.prog 4) b n D ∧ Maps.IsMap D ∧ ∀ x : Int, D.atKey (.int .i64 x) (.lit (.bool false)) = .lit (.bool (decide (x ∈ L)))
theorem und_boolM : Try.prog.underlying 4 = some .bool := Try.underlying4
theorem und_setM : Try.prog.underlying 89 = some (.map 2 4) := Try.underlying89
theorem keyed64 : Maps.Keyed Try.prog 2 := Maps.int_keyed und_int64
theorem zero_boolM (w : World) : (zeroValue 4).run Try.prog w = .ok (.bool false) w := by kernel_rfl
theorem BSet.made (w : World) : BSet (w.alloc (.map #[] 0)) w.heap.size 0 [] :=
  ⟨.map [], World.ownsMap_made _ _ _ _, Maps.isMap_empty, fun x => by simp [DataW.atKey]⟩
theorem BSet.drew {w : World} {b n : Nat} {L : List Int} (h : BSet w b n L) : BSet w.drew b n L := by
  obtain ⟨D, h1, h2, h3⟩ := h
  exact ⟨D, h1.drew, h2, h3⟩
theorem BSet.lt {w : World} {b n : Nat} {L : List Int} (h : BSet w b n L) : b < w.heap.size := by
  obtain ⟨D, h1, _, _⟩ := h
  exact h1.lt
theorem wf64 {x : Int} (h0 : 0 ≤ x) (h1 : x ≤ 9223372036854775807) : (Lit.int .i64 x).wf = true := by
  simp [Lit.wf, IntKind.min, IntKind.max, IntKind.signed, IntKind.bits]; omega
theorem BSet.look {w : World} {b n : Nat} {L : List Int} (h : BSet w b n L) {y : Int} (h0 : 0 ≤ y) (h1 : y ≤ 9223372036854775807) :
    (Instr.lookup 89 (.map (some b)) (.int .i64 y) false).run Try.prog w = .ok (.bool (decide (y ∈ L))) w := by
  obtain ⟨D, hD, _, hat⟩ := h
  obtain ⟨v, ps, hrun, hv⟩ := hD.lookup keyed64 und_setM (zero_boolM w) (plainElem_bool und_boolM false) (Maps.keyOf_int_mk und_int64 (wf64 h0 h1))
  rw [hat y] at hv
  have hvb : v = .bool (decide (y ∈ L)) := by
    unfold plainElem at hv
    rw [und_boolM] at hv
    cases v <;> simp at hv
    rw [hv.1]
  subst hvb
  exact hrun
theorem BSet.put {w : World} {b n : Nat} {L : List Int} (h : BSet w b n L) (hn : n < 1048576) {y : Int} (h0 : 0 ≤ y) (h1 : y ≤ 9223372036854775807) :
    ∃ w', (Instr.mapUpdate 89 (.map (some b)) (.int .i64 y) (.bool true)).run Try.prog w = .ok () w' ∧ BSet w' b (n + 1) (L ++ [y]) ∧ Below b w w' := by
  obtain ⟨D, hD, hI, hat⟩ := h
  have hkl : WideAt.IsKeyLit (.int .i64 y) := by simp [WideAt.IsKeyLit]
  obtain ⟨w', hrun, hown, hgr⟩ := hD.update keyed64 und_setM (by unfold maxLen; omega) (Maps.keyOf_int_mk und_int64 (wf64 h0 h1)) (plainElem_bool und_boolM true)
  refine ⟨w', hrun, ⟨_, hown, hI.put _ _, fun z => ?_⟩, (Below.refl b w).grown hgr (Nat.le_of_lt hD.lt) (fun k hk => by cases hk; exact Nat.le_refl _)⟩
  by_cases hz : z = y
  · subst hz
    rw [Maps.atKey_put_same hI hkl]; simp
  · rw [Maps.atKey_put_other (by simpa using hz), hat z]; simp [hz]

def ordB (l : List Int) : Bool := decide (∀ x ∈ l, 0 ≤ x ∧ x < l.length) && decide l.Nodup
theorem ordB_range {l : List Int} {k : Nat} (hk : k < l.length) (h : ¬ (0 ≤ gi l k ∧ gi l k < l.length)) : ordB l = false := by
  cases hb : ordB l
  · rfl
  · exfalso
    unfold ordB at hb
    simp only [Bool.and_eq_true, decide_eq_true_eq] at hb
    exact h (hb.1 _ (gi_mem hk))
theorem ordB_twice {l : List Int} {k : Nat} (hk : k < l.length) (h : gi l k ∈ l.take k) : ordB l = false := by
  cases hb : ordB l
  · rfl
  · exfalso
    unfold ordB at hb
    simp only [Bool.and_eq_true, decide_eq_true_eq] at hb
    have h2 := hb.2
    rw [← List.take_append_drop (k + 1) l, take_gi hk, List.append_assoc] at h2
    have h3 := (List.nodup_append.1 h2).2.2 _ h (gi l k) (by simp)
    exact h3 rfl
theorem ordB_all {l : List Int} (h1 : ∀ x ∈ l, 0 ≤ x ∧ x < l.length) (h2 : l.Nodup) : ordB l = true := by
  unfold ordB; simp only [Bool.and_eq_true, decide_eq_true_eq]; exact ⟨h1, h2⟩
set_option maxHeartbeats 1000000 in
theorem impl_orderOf (a : Option Addr) (n c : Nat) (l : List Int) (most : Int) (w : World) (hv : Ints w a n c l) (h1 : 1 ≤ n) (hm : (n : Int) ≤ most) (hn : n ≤ 1048576) :
    Calls Try.prog 46 #[.slice a n c, .int .i64 most] w (Ret (.bool (ordB l)) w) := by
  have hmm := @run_makeMap Try.prog
  have HL := Lib.hid hv.len
  obtain ⟨b, off, hix, hcell⟩ := hv.ix (P := Try.prog) 28 2 und_int64s cell_int64
  have Hhv := Lib.hid hv; clear hv
  go_enter Try.func46, Try.ntmps46
  go_wp2_with fail
  go_loopw [11] (fun v11 wr => ∃ k : Nat, k ≤ n ∧ v11 = .int .i64 k ∧ Hid (BSet wr w.heap.size k (l.take k)) ∧ Hid ((∀ x ∈ l.take k, 0 ≤ x ∧ x < l.length) ∧ (l.take k).Nodup) ∧ Ext w wr) (fun v11 _ => n - (intOf v11).toNat)
  case atStart => exact ⟨0, Nat.zero_le _, rfl, BSet.made w, ⟨fun x hx => by simp at hx, by simp⟩, (Ext.refl _).alloc _⟩
  case round =>
    obtain ⟨k, hk, rfl, HB, HP, hx⟩ := hrel
    by_cases hlt : k < n
    · have HT := Lib.hid (take_gi (l := l) (k := k) (by rw [HL.out]; exact hlt))
      have HIn := Lib.hid (fun W => impl_in (gi l k) 0 ((n : Int) - 1) W)
      cases hin : inB (gi l k) 0 ((n : Int) - 1)
      · rw [hin] at HIn
        have HF := Lib.hid (ordB_range (l := l) (k := k) (by rw [HL.out]; exact hlt) (by rw [HL.out]; have := inB_f.1 hin; omega))
        clear hin
        go_wp2_with ((with_reducible refine (HIn.out _).mono ?_); rintro e w1 ⟨rfl, rfl⟩)
        go_ret
        exact ⟨rb HF.out.symm, hx⟩
      · rw [hin] at HIn
        have hr := inB_t.1 hin
        have hlk := HB.out.look hr.1 (by omega)
        clear hin
        by_cases hmem : gi l k ∈ l.take k
        · rw [decide_eq_true hmem] at hlk
          have HF := Lib.hid (ordB_twice (l := l) (k := k) (by rw [HL.out]; exact hlt) hmem)
          clear hmem
          go_wp2_with ((with_reducible refine (HIn.out _).mono ?_); rintro e w1 ⟨rfl, rfl⟩)
          go_ret
          exact ⟨rb HF.out.symm, hx⟩
        · rw [decide_eq_false hmem] at hlk
          obtain ⟨w7, hput, hb7, hbe7⟩ := HB.out.put (by omega) hr.1 (by omega)
          have HM := Lib.hid hmem
          have HB7 := Lib.hid hb7
          have hx7 : Ext w w7 := Ext.below hx hbe7
          clear hmem hb7 hbe7
          go_wp2_with ((with_reducible refine (HIn.out _).mono ?_); rintro e w1 ⟨rfl, rfl⟩)
          refine ⟨⟨k + 1, by omega, by go_num, by rw [Hid, HT.out]; exact HB7.out, ?_, hx7⟩, by simp [intOf]; omega⟩
          rw [Hid, HT.out]
          refine ⟨fun x hx => ?_, ?_⟩
          · rw [List.mem_append] at hx
            rcases hx with hx | hx
            · exact HP.out.1 x hx
            · simp only [List.mem_singleton] at hx; subst hx; rw [HL.out]; omega
          · rw [List.nodup_append]
            exact ⟨HP.out.2, by simp, fun x hx y hy => by simp only [List.mem_singleton] at hy; subst hy; exact fun h => HM.out (h ▸ hx)⟩
    · obtain rfl : k = n := by omega
      have h := HP.out
      rw [take_full (by rw [HL.out]; omega)] at h
      have HF := Lib.hid (ordB_all h.1 h.2)
      clear h
      go_wp2_with fail
      go_ret
      exact ⟨rb HF.out.symm, hx⟩
set_option maxHeartbeats 400000 in
theorem impl_IsOrder (a : Option Addr) (n c : Nat) (l : List Int) (w : World) (hv : Ints w a n c l) (h1 : 1 ≤ n) (hn : n ≤ 36) :
    Calls Try.prog 20 #[.slice a n c] w (Ret (.bool (ordB l)) w) := by
  have HO := Lib.hid (impl_orderOf a n c l 36 w hv h1 (by omega) (by omega))
  clear hv
  go_enter Try.func20, Try.ntmps20
  go_wp2_with ((with_reducible refine HO.out.mono ?_); rintro e w1 ⟨rfl, hx⟩)
  go_ret
  exact ⟨rfl, hx⟩
def idL (n : Nat) : List Int := (List.range n).map fun (d : Nat) => (d : Int)
theorem idL_len (n : Nat) : (idL n).length = n := by simp [idL]
theorem idL_step {n k : Nat} (h : k < n) : (idL n).take (k + 1) = (idL n).take k ++ [(k : Int)] := by
  rw [List.take_succ_eq_append_getElem (by rw [idL_len]; exact h)]
  simp [idL]
def dblL : List Int := [0, 2, 4, 6, 8, 1, 3, 5, 7, 9]
theorem idL_gi {n d : Nat} (h : d < n) : gi (idL n) d = d := by
  rw [gi_get (by rw [idL_len]; exact h)]; simp [idL]
set_option maxHeartbeats 1000000 in
theorem impl_sameOrder (n : Nat) (w : World) (hn : n ≤ 1048576) : Calls Try.prog 25 #[.int .i64 n] w (RetOwn 2 (I (idL n)) w) := by
  go_enter Try.func25, Try.ntmps25
  go_wp2_with fail
  go_loopw [3, 7] (fun v3 v7 wr => ∃ (k : Nat) (ra : Option Addr) (rc : Nat), k ≤ n ∧ v7 = .int .i64 k ∧ v3 = .slice ra k rc ∧ Hid (Own wr w.heap.size 2 ra k rc (I ((idL n).take k))) ∧ Ext w wr) (fun _ v7 _ => n - (intOf v7).toNat)
  case atStart => exact ⟨0, _, _, Nat.zero_le _, rfl, rfl, Own.lit0 _ _, (Ext.refl _).alloc _⟩
  case round =>
    obtain ⟨k, ra, rc, hk, rfl, rfl, HR, hx⟩ := hrel
    by_cases hlt : k < n
    · have HN := Lib.hid (idL_step hlt)
      go_wp2_with (at_builtin; refine law_append1 _ rfl _ _ 28 rfl 2 (.int .i64 0) 8 und_int64s info_int64 rfl w.heap.size ra k rc _ _ rfl rfl rfl HR.out hx.le (by omega) (by omega) ?_; intro ra' rc' w6 ho6 hb6 _; have hxo6 : Ext w w6 := Ext.below hx hb6)
      exact ⟨⟨k + 1, ra', rc', by omega, by go_num, rfl, by rw [Hid, HN.out, I_append]; exact ho6, hxo6⟩, by simp [intOf]; omega⟩
    · obtain rfl : k = n := by omega
      go_wp2_with fail
      go_ret
      have h := HR.out
      rw [take_full (by rw [idL_len]; exact Nat.le_refl _)] at h
      exact RetOwn.mk h (idL_len _) hx
end Go.Proofs.Ytohenfbgjjifbaa
