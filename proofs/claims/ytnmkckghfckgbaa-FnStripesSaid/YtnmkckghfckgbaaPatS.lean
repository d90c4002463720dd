/- Walks: patterns and barcodes in the reference. -/
import Derived.Test.YtnmkckghfckgbaaBc
namespace Go.Proofs.Ytnmkckghfckgbaa
set_option maxRecDepth 100000
open Go.RowKit

theorem elsum_step (s : ByteArray) (k : Nat) (h : k < s.size) : (elsL (s.data.toList.take (k + 1))).sum = (elsL (s.data.toList.take k)).sum + elC s[k] := by
  rw [elsL_snoc s k h, List.sum_append]; simp
theorem elsum_bd {s : ByteArray} {k : Nat} (h : charsB (s.data.toList.take k) = true) : 0 ≤ (elsL (s.data.toList.take k)).sum ∧ (elsL (s.data.toList.take k)).sum ≤ 4 * k := by
  have h1 := sum_bd (l := elsL (s.data.toList.take k)) (B := 4) (fun x hx => by have := elsL_bd h x hx; omega) _ (Nat.le_refl _)
  have h3 : (elsL (s.data.toList.take k)).length ≤ k := by rw [elsL_len]; exact List.length_take_le _ _
  rw [List.take_length] at h1
  have h2 : 0 ≤ (elsL (s.data.toList.take k)).sum := by
    have : ∀ l : List Int, (∀ x ∈ l, 1 ≤ x ∧ x ≤ 4) → 0 ≤ l.sum := by
      intro l; induction l with
      | nil => intro _; simp
      | cons x xs ih => intro h; have h4 := ih fun y hy => h y (List.mem_cons_of_mem _ hy); have h5 := h x (List.mem_cons_self ..); simp only [List.sum_cons]; omega
    exact this _ (elsL_bd h)
  omega
set_option maxHeartbeats 1000000 in
theorem spec_pattern (s : ByteArray) (w : World) (hs : s.size ≤ 1048576) :
    Calls Try.prog 92 #[.string s] w (Same (.bool (patB s.data.toList)) w) := by
  go_enter Try.func92, Try.ntmps92
  go_wp2_with fail
  go_loop [3, 4] (fun v i => ∃ k : Nat, k ≤ s.size ∧ i = .int .i64 k ∧ v = .int .i64 (elsL (s.data.toList.take k)).sum ∧ charsB (s.data.toList.take k) = true) (fun _ i => s.size - (intOf i).toNat)
  case atStart => exact ⟨0, Nat.zero_le _, rfl, rfl, rfl⟩
  case round =>
    obtain ⟨k, hk, rfl, rfl, hp⟩ := hrel
    have hsb := elsum_bd hp
    have Hhp := Lib.hid hp; clear hp
    by_cases hlt : k < s.size
    · have HN := Lib.hid (elsum_step s k hlt)
      have HS := Lib.hid (fun h => allc_step (p := goodC) hlt h Hhp.out)
      have HF := Lib.hid (fun h => allc_no (p := goodC) hlt h)
      cases hg : goodC s[k]
      · have HNo := Lib.hid (HF.out hg)
        have hb : ¬ 49 ≤ s[k].toNat ∨ ¬ s[k].toNat ≤ 52 := by unfold goodC at hg; simp at hg; omega
        clear HS HF hg HN
        by_cases h1 : 49 ≤ s[k].toNat
        all_goals
          go_wp2
          go_ret
          exact ⟨by rw [show patB s.data.toList = false by unfold patB charsB; rw [HNo.out]; rfl]; rfl, rfl⟩
      · have hb := goodC_bd hg
        have HNo := Lib.hid (HS.out hg)
        have HU := Lib.hid (u8_sub48 hb.1)
        obtain ⟨b1, b2⟩ := hb
        clear HS HF hg
        have hw8 : IntKind.u8.wrap ((s[k].toNat : Int) - 48) = (s[k].toNat : Int) - 48 := HU.out
        go_wp2
        exact ⟨⟨k + 1, by omega, by go_num, by rw [HN.out]; rfl, HNo.out⟩, by simp [intOf]; omega⟩
    · obtain rfl : k = s.size := by omega
      have hc : charsB s.data.toList = true := by have := Hhp.out; rwa [take_full (by simp)] at this
      have HT := Lib.hid (show (elsL (s.data.toList.take s.size)).sum = (elsL s.data.toList).sum by rw [take_full (by simp)])
      have Hhc := Lib.hid hc; clear hc
      have HP := Lib.hid (show patB s.data.toList = (inB s.size 1 10 && decide ((elsL (s.data.toList.take s.size)).sum ≤ 20)) by unfold patB; rw [Hhc.out, HT.out, size_eq]; rfl)
      go_wp2_with (go_at_call 93; refine (spec_in _ _ _ _).mono ?_; rintro e w' ⟨rfl, rfl⟩)
      all_goals (go_ret; exact ⟨rb (by rw [HP.out]; simp_all), rfl⟩)
set_option maxHeartbeats 400000 in
theorem spec_elements (s : ByteArray) (w : World) (hs : s.size ≤ 1048576) (hc : charsB s.data.toList = true) :
    Calls Try.prog 61 #[.string s] w (RetOwn 2 (I (elsL s.data.toList)) w) := by
  have HG := Lib.hid (fun k (h : k < s.size) => show 49 ≤ s[k].toNat ∧ s[k].toNat ≤ 52 from goodC_bd (List.all_eq_true.1 hc _ (by rw [byte_at s k h]; exact getD_mem _ 0 k (by simpa using h))))
  clear hc
  go_enter Try.func61, Try.ntmps61
  go_wp2_with fail
  go_loopw [3, 4] (fun v i wr => ∃ (k : Nat) (ad : Option Addr) (c : Nat), k ≤ s.size ∧ i = .int .i64 k ∧ v = .slice ad k c ∧ Own wr w.heap.size 2 ad k c (I (elsL (s.data.toList.take k))) ∧ Ext w wr) (fun _ i _ => s.size - (intOf i).toNat)
  case atStart => exact ⟨0, _, _, Nat.zero_le _, rfl, rfl, Own.lit0 w _, (Ext.refl w).alloc _⟩
  case round =>
    obtain ⟨k, ad, c, hk, rfl, rfl, ho, hx⟩ := hrel
    have Hho := Lib.hid ho; clear ho
    by_cases hlt : k < s.size
    · have HN := Lib.hid (elsL_snoc s k hlt)
      obtain ⟨b1, b2⟩ := HG.out k hlt
      have HU := Lib.hid (u8_sub48 b1)
      have hw8 : IntKind.u8.wrap ((s[k].toNat : Int) - 48) = (s[k].toNat : Int) - 48 := HU.out
      go_wp2_with (at_builtin; refine law_append1 _ rfl _ _ 36 rfl 2 (.int .i64 0) 8 und_int64s info_int64 rfl w.heap.size ad k c _ _ rfl rfl rfl Hho.out (hx).le (by omega) (by omega) ?_; intro ad' c' w1 ho1 hb1 hg1; have hxw1 : Ext w w1 := Ext.below (hx) hb1)
      refine ⟨⟨k + 1, ad', c', by omega, by go_num, rfl, ?_, hx.below hb1⟩, by simp [intOf]; omega⟩
      rw [HN.out, I_append]
      exact ho1
    · obtain rfl : k = s.size := by omega
      go_wp2
      go_ret
      exact RetOwn.mk (by have := Hho.out; rwa [take_full (by simp)] at this) (by rw [elsL_len, size_eq]) hx
set_option maxHeartbeats 400000 in
theorem spec_l08Sum (a : Option Addr) (n c : Nat) (l : List Int) (w : World) (hv : Ints w a n c l) (hb : Bd l 1099511627776) (hn : n ≤ 4194304) :
    Calls Try.prog 94 #[.slice a n c] w (Same (.int .i64 l.sum) w) := by
  have HL := Lib.hid hv.len
  obtain ⟨b, off, hix, hcell⟩ := hv.ix (P := Try.prog) 36 2 und_int64s cell_int64
  have hsb : ∀ k, k ≤ n → -(1099511627776 * (k : Int)) ≤ (l.take k).sum ∧ (l.take k).sum ≤ 1099511627776 * k := fun k hk => sum_bd hb k (by rw [HL.out]; exact hk)
  have hgb : ∀ k, k < n → -1099511627776 ≤ gi l k ∧ gi l k ≤ 1099511627776 := fun k hk => hb.gi (by rw [HL.out]; exact hk)
  have Hhv := Lib.hid hv; clear hv; have Hhb := Lib.hid hb; clear hb; have Hhsb := Lib.hid hsb; clear hsb; have Hhgb := Lib.hid hgb; clear hgb
  go_enter Try.func94, Try.ntmps94
  go_wp2
  go_loop [3, 4] (fun s i => ∃ k : Nat, k ≤ n ∧ i = .int .i64 k ∧ s = .int .i64 (l.take k).sum) (fun _ i => n - (intOf i).toNat)
  case atStart => exact ⟨0, Nat.zero_le _, rfl, rfl⟩
  case round =>
    obtain ⟨k, hk, rfl, rfl⟩ := hrel
    have h1 := Hhsb.out k hk
    by_cases hlt : k < n
    · have h2 := Hhgb.out k hlt
      have hs := Lib.hid (sum_step (l := l) (k := k) (by rw [HL.out]; exact hlt))
      go_wp2
      exact ⟨⟨k + 1, by omega, by go_num, by rw [hs.out]⟩, by simp [intOf]; omega⟩
    · go_wp2
      go_ret
      exact ⟨ri (by rw [take_full (by rw [HL.out]; omega)]), rfl⟩
theorem gi_els {s : ByteArray} {k : Nat} (h : k < s.size) : gi (elsL s.data.toList) k = elC s[k] := by
  rw [byte_at s k h]
  simp [gi, elsL, List.getD_eq_getElem?_getD, h]
set_option maxHeartbeats 1000000 in
theorem spec_l08Far (p q : ByteArray) (w : World) (hs : p.size ≤ 1048576) (hm : p.size ≤ q.size) :
    Calls Try.prog 50 #[.string p, .string q] w (Ret (.int .i64 (apartL ((elsL p.data.toList).take p.size) ((elsL q.data.toList).take p.size))) w) := by
  have hsb : ∀ k, k ≤ p.size → 0 ≤ apartL ((elsL p.data.toList).take k) ((elsL q.data.toList).take k) ∧ apartL ((elsL p.data.toList).take k) ((elsL q.data.toList).take k) ≤ 2 * 1000 * k := fun k hk => by
    have hb : ∀ r : ByteArray, Bd (elsL r.data.toList) 1000 := fun r x hx => by
      obtain ⟨c, _, rfl⟩ := List.mem_map.1 hx
      have := c.toNat_lt; unfold elC; omega
    exact apartL_bd (hb p) (hb q) (by omega) k (by rw [elsL_len, size_eq]; exact hk) (by rw [elsL_len, size_eq]; omega)
  have Hhsb := Lib.hid hsb; clear hsb
  go_enter Try.func50, Try.ntmps50
  go_wp2
  go_loopw [5, 6] (fun s i wr => ∃ k : Nat, k ≤ p.size ∧ i = .int .i64 k ∧ s = .int .i64 (apartL ((elsL p.data.toList).take k) ((elsL q.data.toList).take k)) ∧ Ext w wr) (fun _ i _ => p.size - (intOf i).toNat)
  case atStart => exact ⟨0, Nat.zero_le _, rfl, rfl, Ext.refl _⟩
  case round =>
    obtain ⟨k, hk, rfl, rfl, hx⟩ := hrel
    have h1 := Hhsb.out k hk
    by_cases hlt : k < p.size
    · have hlt2 : k < q.size := by omega
      have HS := Lib.hid (apartL_step (elsL p.data.toList) (elsL q.data.toList) k (by rw [elsL_len, size_eq]; exact hlt) (by rw [elsL_len, size_eq]; exact hlt2))
      have h5 := p[k].toNat_lt
      have h6 := q[k].toNat_lt
      rw [gi_els hlt, gi_els hlt2] at HS
      go_wp2
      (refine wp_region_up (by kernel_rfl) (by kernel_rfl) (by kernel_rfl) ?_; (repeat (first | (refine mix_q rfl ?_; go_big_quiet_step (fail); refine wpQuiet_nil ?_; show wpMix _ _ _ _ _ _ _) | (refine mix_s rfl ?_; go_wp2_with (fail); first | refine ⟨up_of (by repeat (first | (with_reducible exact Ext.refl _) | (with_reducible refine Ext.drewN ?_ _) | (with_reducible refine Ext.drew ?_) | (with_reducible refine Ext.alloc ?_ _) | ((with_reducible refine Ext.setCell ?_ ?_ _); rotate_left; focus (first | (simp; done) | (simp; omega) | omega)) | assumption | (with_reducible refine Ext.trans ?_ (by assumption)))), ?_⟩ | refine ⟨rfl, rfl, up_of (by repeat (first | (with_reducible exact Ext.refl _) | (with_reducible refine Ext.drewN ?_ _) | (with_reducible refine Ext.drew ?_) | (with_reducible refine Ext.alloc ?_ _) | ((with_reducible refine Ext.setCell ?_ ?_ _); rotate_left; focus (first | (simp; done) | (simp; omega) | omega)) | assumption | (with_reducible refine Ext.trans ?_ (by assumption)))), ?_⟩))); refine mix_nil ?_)
      go_wp2_with (go_at_call 95; refine (spec_max _ _ _).mono ?_; rintro e w' ⟨rfl, rfl⟩)
      exact ⟨⟨k + 1, by omega, by go_num, by rw [HS.out]; unfold elC; go_num, (by repeat (first | (with_reducible exact Ext.refl _) | (with_reducible refine Ext.drewN ?_ _) | (with_reducible refine Ext.drew ?_) | (with_reducible refine Ext.alloc ?_ _) | ((with_reducible refine Ext.setCell ?_ ?_ _); rotate_left; focus (first | (simp; done) | (simp; omega) | omega)) | assumption | (with_reducible refine Ext.trans ?_ (by assumption))))⟩, by simp [intOf]; omega⟩
    · go_wp2
      go_ret
      obtain rfl : k = p.size := by omega
      exact ⟨rfl, hx⟩
end Go.Proofs.Ytnmkckghfckgbaa
