/- Walks: sums of neighbours; lists that are alike. -/
import Derived.Test.YtnmkckghfckgbaaLpdS
namespace Go.Proofs.Ytnmkckghfckgbaa
set_option maxRecDepth 100000
open Go.RowKit

def edgesTo (l : List Int) (k : Nat) : List Int := (List.range k).map fun i => gi l i + gi l (i + 1)
def edgesL (l : List Int) : List Int := edgesTo l (l.length - 1)
theorem edgesTo_len (l : List Int) (k : Nat) : (edgesTo l k).length = k := by simp [edgesTo]
theorem edgesTo_snoc (l : List Int) (k : Nat) : edgesTo l (k + 1) = edgesTo l k ++ [gi l k + gi l (k + 1)] := by simp [edgesTo, List.range_succ]
set_option maxHeartbeats 1000000 in
theorem impl_edges (a : Option Addr) (n c : Nat) (l : List Int) (w : World) (hv : Ints w a n c l) (hb : Bd l 1099511627776) (hn : n ≤ 4194304) :
    Calls Try.prog 63 #[.slice a n c] w (RetOwn 2 (I (edgesL l)) w) := by
  have HL := Lib.hid hv.len
  obtain ⟨b, off, hix, hcell⟩ := hv.ix (P := Try.prog) 36 2 und_int64s cell_int64
  have HG := Lib.hid (fun k (hk : k < n) => hb.gi (l := l) (k := k) (by rw [HL.out]; exact hk))
  have Hhv := Lib.hid hv; clear hv; have Hhb := Lib.hid hb; clear hb
  go_enter Try.func63, Try.ntmps63
  go_wp2_with fail
  go_loopw [3, 4] (fun v i wr => ∃ (k : Nat) (ad : Option Addr) (c : Nat), k ≤ n - 1 ∧ i = .int .i64 (k + 1) ∧ v = .slice ad k c ∧ Own wr w.heap.size 2 ad k c (I (edgesTo l k)) ∧ Ext w wr) (fun _ i _ => n - (intOf i).toNat)
  case atStart => exact ⟨0, _, _, Nat.zero_le _, rfl, rfl, Own.lit0 w _, (Ext.refl w).alloc _⟩
  case round =>
    obtain ⟨k, ad, c, hk, rfl, rfl, ho, hx⟩ := hrel
    have Hho := Lib.hid ho; clear ho
    by_cases hlt : k + 1 < n
    · have h1 := HG.out k (by omega)
      have h2 := HG.out (k + 1) (by omega)
      have hi1 : ((k : Int) + 1 - 1) = k := by omega
      have hk1 : k < n := by omega
      have hk0 : (0 : Int) ≤ (k : Int) + 1 := by omega
      have hk2 : (k : Int) + 1 < n := by omega
      have hkt : ((k : Int) + 1).toNat = k + 1 := by omega
      have hw1 : IntKind.i64.wrap ((k : Int) + 1 - 1) = k := by rw [hi1]; exact IntWalk.i64_in _ (by omega)
      have hc1 : ∀ w', Ext w w' → w'.cell? ⟨b, off + (k + 1), none⟩ = some (.int .i64 (gi l (k + 1))) := fun w' h => hcell (k + 1) w' hlt h
      have HN := Lib.hid (edgesTo_snoc l k)
      go_wp2
      (refine wp_region_from w (by repeat (first | (with_reducible exact Ext.refl _) | (with_reducible refine Ext.drewN ?_ _) | (with_reducible refine Ext.drew ?_) | (with_reducible refine Ext.alloc ?_ _) | ((with_reducible refine Ext.setCell ?_ ?_ _); rotate_left; focus (first | (simp; done) | (simp; omega) | omega)) | assumption | (with_reducible refine Ext.trans ?_ (by assumption)))) (by kernel_rfl) (by kernel_rfl) (by kernel_rfl) ?_; (repeat (first | (refine mix_q rfl ?_; go_big_quiet_step (fail); refine wpQuiet_nil ?_; show wpMix _ _ _ _ _ _ _) | (refine mix_s rfl ?_; go_wp2_with ((at_builtin; refine law_append1 _ rfl _ _ 36 rfl 2 (.int .i64 0) 8 und_int64s info_int64 rfl w.heap.size ad k c _ _ rfl rfl rfl Hho.out.drew (hx.drew).le (by omega) (by omega) ?_; intro ad' c' w1 ho1 hb1 hg1; have hxw1 : Ext w w1 := Ext.below (hx.drew) hb1)); first | refine ⟨up_of (by repeat (first | (with_reducible exact Ext.refl _) | (with_reducible refine Ext.drewN ?_ _) | (with_reducible refine Ext.drew ?_) | (with_reducible refine Ext.alloc ?_ _) | ((with_reducible refine Ext.setCell ?_ ?_ _); rotate_left; focus (first | (simp; done) | (simp; omega) | omega)) | assumption | (with_reducible refine Ext.trans ?_ (by assumption)))), ?_⟩ | refine ⟨rfl, rfl, up_of (by repeat (first | (with_reducible exact Ext.refl _) | (with_reducible refine Ext.drewN ?_ _) | (with_reducible refine Ext.drew ?_) | (with_reducible refine Ext.alloc ?_ _) | ((with_reducible refine Ext.setCell ?_ ?_ _); rotate_left; focus (first | (simp; done) | (simp; omega) | omega)) | assumption | (with_reducible refine Ext.trans ?_ (by assumption)))), ?_⟩))); refine mix_nil ?_)
      go_wp2
      refine ⟨⟨k + 1, ad', c', by omega, by go_num, rfl, ?_, ?_⟩, by simp [intOf]; omega⟩
      · rw [HN.out, I_append]; exact ho1
      · exact (by repeat (first | (with_reducible exact Ext.refl _) | (with_reducible refine Ext.drewN ?_ _) | (with_reducible refine Ext.drew ?_) | (with_reducible refine Ext.alloc ?_ _) | ((with_reducible refine Ext.setCell ?_ ?_ _); rotate_left; focus (first | (simp; done) | (simp; omega) | omega)) | assumption | (with_reducible refine Ext.trans ?_ (by assumption))))
    · go_wp2
      go_ret
      obtain rfl : k = n - 1 := by omega
      refine RetOwn.mk (l := edgesL l) ?_ (by rw [edgesL, edgesTo_len, HL.out]) hx
      rw [edgesL, HL.out]; exact Hho.out
set_option maxHeartbeats 1000000 in
theorem spec_l08Edges (a : Option Addr) (n c : Nat) (l : List Int) (w : World) (hv : Ints w a n c l) (hb : Bd l 1099511627776) (hn : n ≤ 4194304) :
    Calls Try.prog 60 #[.slice a n c] w (RetOwn 2 (I (edgesL l)) w) := by
  have HL := Lib.hid hv.len
  obtain ⟨b, off, hix, hcell⟩ := hv.ix (P := Try.prog) 36 2 und_int64s cell_int64
  have HG := Lib.hid (fun k (hk : k < n) => hb.gi (l := l) (k := k) (by rw [HL.out]; exact hk))
  have Hhv := Lib.hid hv; clear hv; have Hhb := Lib.hid hb; clear hb
  go_enter Try.func60, Try.ntmps60
  go_wp2_with fail
  go_loopw [3, 4] (fun v i wr => ∃ (k : Nat) (ad : Option Addr) (c : Nat), k ≤ n - 1 ∧ i = .int .i64 k ∧ v = .slice ad k c ∧ Own wr w.heap.size 2 ad k c (I (edgesTo l k)) ∧ Ext w wr) (fun _ i _ => n - (intOf i).toNat)
  case atStart => exact ⟨0, _, _, Nat.zero_le _, rfl, rfl, Own.lit0 w _, (Ext.refl w).alloc _⟩
  case round =>
    obtain ⟨k, ad, c, hk, rfl, rfl, ho, hx⟩ := hrel
    have Hho := Lib.hid ho; clear ho
    by_cases hlt : k + 1 < n
    · have h1 := HG.out k (by omega)
      have h2 := HG.out (k + 1) (by omega)
      have hk1 : k < n := by omega
      have hk0 : (0 : Int) ≤ (k : Int) + 1 := by omega
      have hk2 : (k : Int) + 1 < n := by omega
      have hkt : ((k : Int) + 1).toNat = k + 1 := by omega
      have hw1 : IntKind.i64.wrap ((k : Int) + 1) = (k : Int) + 1 := IntWalk.i64_in _ (by omega)
      have hc1 : ∀ w', Ext w w' → w'.cell? ⟨b, off + (k + 1), none⟩ = some (.int .i64 (gi l (k + 1))) := fun w' h => hcell (k + 1) w' hlt h
      have HN := Lib.hid (edgesTo_snoc l k)
      go_wp2
      (refine wp_region_from w (by repeat (first | (with_reducible exact Ext.refl _) | (with_reducible refine Ext.drewN ?_ _) | (with_reducible refine Ext.drew ?_) | (with_reducible refine Ext.alloc ?_ _) | ((with_reducible refine Ext.setCell ?_ ?_ _); rotate_left; focus (first | (simp; done) | (simp; omega) | omega)) | assumption | (with_reducible refine Ext.trans ?_ (by assumption)))) (by kernel_rfl) (by kernel_rfl) (by kernel_rfl) ?_; (repeat (first | (refine mix_q rfl ?_; go_big_quiet_step (fail); refine wpQuiet_nil ?_; show wpMix _ _ _ _ _ _ _) | (refine mix_s rfl ?_; go_wp2_with ((at_builtin; refine law_append1 _ rfl _ _ 36 rfl 2 (.int .i64 0) 8 und_int64s info_int64 rfl w.heap.size ad k c _ _ rfl rfl rfl Hho.out.drew (hx.drew).le (by omega) (by omega) ?_; intro ad' c' w1 ho1 hb1 hg1; have hxw1 : Ext w w1 := Ext.below (hx.drew) hb1)); first | refine ⟨up_of (by repeat (first | (with_reducible exact Ext.refl _) | (with_reducible refine Ext.drewN ?_ _) | (with_reducible refine Ext.drew ?_) | (with_reducible refine Ext.alloc ?_ _) | ((with_reducible refine Ext.setCell ?_ ?_ _); rotate_left; focus (first | (simp; done) | (simp; omega) | omega)) | assumption | (with_reducible refine Ext.trans ?_ (by assumption)))), ?_⟩ | refine ⟨rfl, rfl, up_of (by repeat (first | (with_reducible exact Ext.refl _) | (with_reducible refine Ext.drewN ?_ _) | (with_reducible refine Ext.drew ?_) | (with_reducible refine Ext.alloc ?_ _) | ((with_reducible refine Ext.setCell ?_ ?_ _); rotate_left; focus (first | (simp; done) | (simp; omega) | omega)) | assumption | (with_reducible refine Ext.trans ?_ (by assumption)))), ?_⟩))); refine mix_nil ?_)
      go_wp2
      refine ⟨⟨k + 1, ad', c', by omega, by go_num, rfl, ?_, ?_⟩, by simp [intOf]; omega⟩
      · rw [HN.out, I_append]; exact ho1
      · exact (by repeat (first | (with_reducible exact Ext.refl _) | (with_reducible refine Ext.drewN ?_ _) | (with_reducible refine Ext.drew ?_) | (with_reducible refine Ext.alloc ?_ _) | ((with_reducible refine Ext.setCell ?_ ?_ _); rotate_left; focus (first | (simp; done) | (simp; omega) | omega)) | assumption | (with_reducible refine Ext.trans ?_ (by assumption))))
    · go_wp2
      go_ret
      obtain rfl : k = n - 1 := by omega
      refine RetOwn.mk (l := edgesL l) ?_ (by rw [edgesL, edgesTo_len, HL.out]) hx
      rw [edgesL, HL.out]; exact Hho.out
set_option maxHeartbeats 1000000 in
theorem spec_same (a a' : Option Addr) (n n' c c' : Nat) (l l' : List Int) (w : World) (hv : Ints w a n c l) (hv' : Ints w a' n' c' l') (hn : n ≤ 4611686018427387904) :
    Calls Try.prog 59 #[.slice a n c, .slice a' n' c'] w (Ret (.bool (decide (l = l'))) w) := by
  have HL := Lib.hid hv.len
  have HL' := Lib.hid hv'.len
  by_cases he : n = n'
  · subst he
    obtain ⟨b, off, hix, hcell⟩ := hv.ix (P := Try.prog) 36 2 und_int64s cell_int64
    obtain ⟨b', off', hix', hcell'⟩ := hv'.ix (P := Try.prog) 36 2 und_int64s cell_int64
    have Hhv := Lib.hid hv; clear hv; have Hhv' := Lib.hid hv'; clear hv'
    go_enter Try.func59, Try.ntmps59
    go_wp2
    go_loopw [5] (fun i wr => ∃ k : Nat, k ≤ n ∧ i = .int .i64 k ∧ l.take k = l'.take k ∧ Ext w wr) (fun i _ => n - (intOf i).toNat)
    case atStart => exact ⟨0, Nat.zero_le _, rfl, rfl, Ext.refl _⟩
    case round =>
      obtain ⟨k, hk, rfl, hp, hx⟩ := hrel
      have Hhp := Lib.hid hp; clear hp
      by_cases hlt : k < n
      · have HT := Lib.hid (take_gi (l := l) (k := k) (by rw [HL.out]; exact hlt))
        have HT' := Lib.hid (take_gi (l := l') (k := k) (by rw [HL'.out]; exact hlt))
        go_wp2
        (refine wp_region_up (by kernel_rfl) (by kernel_rfl) (by kernel_rfl) ?_; (repeat (first | (refine mix_q rfl ?_; go_big_quiet_step (fail); refine wpQuiet_nil ?_; show wpMix _ _ _ _ _ _ _) | (refine mix_s rfl ?_; go_wp2_with (fail); first | refine ⟨up_of (by repeat (first | (with_reducible exact Ext.refl _) | (with_reducible refine Ext.drewN ?_ _) | (with_reducible refine Ext.drew ?_) | (with_reducible refine Ext.alloc ?_ _) | ((with_reducible refine Ext.setCell ?_ ?_ _); rotate_left; focus (first | (simp; done) | (simp; omega) | omega)) | assumption | (with_reducible refine Ext.trans ?_ (by assumption)))), ?_⟩ | refine ⟨rfl, rfl, up_of (by repeat (first | (with_reducible exact Ext.refl _) | (with_reducible refine Ext.drewN ?_ _) | (with_reducible refine Ext.drew ?_) | (with_reducible refine Ext.alloc ?_ _) | ((with_reducible refine Ext.setCell ?_ ?_ _); rotate_left; focus (first | (simp; done) | (simp; omega) | omega)) | assumption | (with_reducible refine Ext.trans ?_ (by assumption)))), ?_⟩))); refine mix_nil ?_)
        go_wp2
        · have h1 : (gi l k != gi l' k) = true := by assumption
          go_ret
          refine ⟨rb ?_, (by repeat (first | (with_reducible exact Ext.refl _) | (with_reducible refine Ext.drewN ?_ _) | (with_reducible refine Ext.drew ?_) | (with_reducible refine Ext.alloc ?_ _) | ((with_reducible refine Ext.setCell ?_ ?_ _); rotate_left; focus (first | (simp; done) | (simp; omega) | omega)) | assumption | (with_reducible refine Ext.trans ?_ (by assumption))))⟩
          have hne : ¬ l = l' := fun h => by subst h; simp at h1
          simp [hne]
        · have h1 : (gi l k != gi l' k) = false := by assumption
          have h2 : gi l k = gi l' k := by simpa using h1
          exact ⟨⟨k + 1, by omega, by go_num, by rw [HT.out, HT'.out, Hhp.out, h2], (by repeat (first | (with_reducible exact Ext.refl _) | (with_reducible refine Ext.drewN ?_ _) | (with_reducible refine Ext.drew ?_) | (with_reducible refine Ext.alloc ?_ _) | ((with_reducible refine Ext.setCell ?_ ?_ _); rotate_left; focus (first | (simp; done) | (simp; omega) | omega)) | assumption | (with_reducible refine Ext.trans ?_ (by assumption))))⟩, by simp [intOf]; omega⟩
      · go_wp2
        go_ret
        refine ⟨rb ?_, hx⟩
        have := Hhp.out
        rw [take_full (by rw [HL.out]; omega), take_full (by rw [HL'.out]; omega)] at this
        simp [this]
  · have hne : l ≠ l' := fun h => he (by rw [← HL.out, ← HL'.out, h])
    have HN := Lib.hid hne
    have hb : ((n : Int) != (n' : Int)) = true := by simp; omega
    clear hne hv hv' he
    go_enter Try.func59, Try.ntmps59
    go_wp2
    go_ret
    exact ⟨rb (by simp [HN.out]), Ext.refl _⟩
set_option maxHeartbeats 1000000 in
theorem equal_ints (a a' : Option Addr) (n n' c c' : Nat) (l l' : List Int) (w : World) (hv : Ints w a n c l) (hv' : Ints w a' n' c' l') (hn : n ≤ 4611686018427387904) :
    Calls Try.prog 62 #[.slice a n c, .slice a' n' c'] w (Ret (.bool (decide (l = l'))) w) := by
  have HL := Lib.hid hv.len
  have HL' := Lib.hid hv'.len
  by_cases he : n = n'
  · subst he
    obtain ⟨b, off, hix, hcell⟩ := hv.ix (P := Try.prog) 36 2 und_int64s cell_int64
    obtain ⟨b', off', hix', hcell'⟩ := hv'.ix (P := Try.prog) 36 2 und_int64s cell_int64
    have Hhv := Lib.hid hv; clear hv; have Hhv' := Lib.hid hv'; clear hv'
    go_enter Try.func62, Try.ntmps62
    go_wp2
    go_loopw [5, 13] (fun _ i wr => ∃ k : Nat, k ≤ n ∧ i = .int .i64 k ∧ l.take k = l'.take k ∧ Ext w wr) (fun _ i _ => n - (intOf i).toNat)
    case atStart => exact ⟨0, Nat.zero_le _, rfl, rfl, Ext.refl _⟩
    case round =>
      obtain ⟨k, hk, rfl, hp, hx⟩ := hrel
      have Hhp := Lib.hid hp; clear hp
      by_cases hlt : k < n
      · have HT := Lib.hid (take_gi (l := l) (k := k) (by rw [HL.out]; exact hlt))
        have HT' := Lib.hid (take_gi (l := l') (k := k) (by rw [HL'.out]; exact hlt))
        go_wp2
        (refine wp_region_up (by kernel_rfl) (by kernel_rfl) (by kernel_rfl) ?_; (repeat (first | (refine mix_q rfl ?_; go_big_quiet_step (fail); refine wpQuiet_nil ?_; show wpMix _ _ _ _ _ _ _) | (refine mix_s rfl ?_; go_wp2_with (fail); first | refine ⟨up_of (by repeat (first | (with_reducible exact Ext.refl _) | (with_reducible refine Ext.drewN ?_ _) | (with_reducible refine Ext.drew ?_) | (with_reducible refine Ext.alloc ?_ _) | ((with_reducible refine Ext.setCell ?_ ?_ _); rotate_left; focus (first | (simp; done) | (simp; omega) | omega)) | assumption | (with_reducible refine Ext.trans ?_ (by assumption)))), ?_⟩ | refine ⟨rfl, rfl, up_of (by repeat (first | (with_reducible exact Ext.refl _) | (with_reducible refine Ext.drewN ?_ _) | (with_reducible refine Ext.drew ?_) | (with_reducible refine Ext.alloc ?_ _) | ((with_reducible refine Ext.setCell ?_ ?_ _); rotate_left; focus (first | (simp; done) | (simp; omega) | omega)) | assumption | (with_reducible refine Ext.trans ?_ (by assumption)))), ?_⟩))); refine mix_nil ?_)
        go_wp2
        · have h1 : (gi l k != gi l' k) = true := by assumption
          go_ret
          refine ⟨rb ?_, (by repeat (first | (with_reducible exact Ext.refl _) | (with_reducible refine Ext.drewN ?_ _) | (with_reducible refine Ext.drew ?_) | (with_reducible refine Ext.alloc ?_ _) | ((with_reducible refine Ext.setCell ?_ ?_ _); rotate_left; focus (first | (simp; done) | (simp; omega) | omega)) | assumption | (with_reducible refine Ext.trans ?_ (by assumption))))⟩
          have hne : ¬ l = l' := fun h => by subst h; simp at h1
          simp [hne]
        · have h1 : (gi l k != gi l' k) = false := by assumption
          have h2 : gi l k = gi l' k := by simpa using h1
          exact ⟨⟨k + 1, by omega, by go_num, by rw [HT.out, HT'.out, Hhp.out, h2], (by repeat (first | (with_reducible exact Ext.refl _) | (with_reducible refine Ext.drewN ?_ _) | (with_reducible refine Ext.drew ?_) | (with_reducible refine Ext.alloc ?_ _) | ((with_reducible refine Ext.setCell ?_ ?_ _); rotate_left; focus (first | (simp; done) | (simp; omega) | omega)) | assumption | (with_reducible refine Ext.trans ?_ (by assumption))))⟩, by simp [intOf]; omega⟩
      · go_wp2
        go_ret
        refine ⟨rb ?_, hx⟩
        have := Hhp.out
        rw [take_full (by rw [HL.out]; omega), take_full (by rw [HL'.out]; omega)] at this
        simp [this]
  · have hne : l ≠ l' := fun h => he (by rw [← HL.out, ← HL'.out, h])
    have HN := Lib.hid hne
    have hb : ((n : Int) != (n' : Int)) = true := by simp; omega
    clear hne hv hv' he
    go_enter Try.func62, Try.ntmps62
    go_wp2
    go_ret
    exact ⟨rb (by simp [HN.out]), Ext.refl _⟩
end Go.Proofs.Ytnmkckghfckgbaa
