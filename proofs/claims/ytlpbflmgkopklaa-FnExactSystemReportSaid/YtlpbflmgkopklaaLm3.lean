/- Walks: the least modulus in the reference. -/
import Derived.Test.YtlpbflmgkopklaaLm2
namespace Go.Proofs.Ytlpbflmgkopklaa
set_option maxRecDepth 100000
open Go.RowKit

theorem kinds_rise {kinds : List Int} {base : Int} {n : Nat} (hn : kinds.length = n) : (List.range n).all (riseB kinds 0 (if base < 10 then 4 else 5)) = kindsB kinds base := by
  unfold kindsB riseB
  rw [hn]
  congr 1
  funext i
  rw [kindB_most]
theorem many_of_search {base : Int} {m np : Nat} (h : searchB base m np = true) : manyB base np = true := by
  unfold searchB at h
  unfold manyB
  simp only [Bool.and_eq_true] at h ⊢
  exact ⟨h.1.1.2, h.1.1.1.1, h.1.2⟩
theorem search_split {base : Int} {m np : Nat} (h : manyB base np = true) (hm : 2 ≤ m) : searchB base m np = (decide (m ≤ 36) && decide ((m : Int) ^ np ≤ 20000)) := by
  unfold manyB at h
  simp only [Bool.and_eq_true] at h
  unfold searchB
  rw [h.2.1, h.1, h.2.2, Bool.and_true, Bool.true_and, Bool.and_true, Int.toNat_natCast]
  congr 1
  rw [Bool.eq_iff_iff, inB_t, decide_eq_true_iff]
  omega
/-- the weighting of a round: its block, its weights -/
structure L2 (w0 : World) (b g np m : Nat) (base : Int) (t : Nat) (wr : World) : Prop where
  ext : Ext w0 wr
  c0 : wr.cell? ⟨b, 0, none⟩ = some (.int .i64 base)
  c1 : wr.cell? ⟨b, 1, none⟩ = some (.int .i64 m)
  c2 : wr.cell? ⟨b, 2, none⟩ = some (.int .i64 0)
  c3 : wr.cell? ⟨b, 3, none⟩ = some (.slice (some ⟨g, 0, none⟩) np np)
  row : Own wr w0.heap.size 2 (some ⟨g, 0, none⟩) np np (I (tupAt m np (t % m ^ np)))
section
variable {w0 wr wr' : World} {b g np m : Nat} {base : Int} {t t' : Nat}
theorem L2.wt (h : L2 w0 b g np m base t wr) (ht : t < m ^ np) : IsWt wr b ⟨base, m, 0, tupAt m np t⟩ (some ⟨g, 0, none⟩) np np := ⟨h.c0, h.c1, h.c2, h.c3, by have := h.row.ints; rwa [Nat.mod_eq_of_lt ht] at this⟩
theorem L2.go (h : L2 w0 b g np m base t wr) (ht : Touch g wr wr') (hg0 : w0.heap.size ≤ g) (hb : b ≠ g) (hr : Own wr' w0.heap.size 2 (some ⟨g, 0, none⟩) np np (I (tupAt m np (t' % m ^ np)))) : L2 w0 b g np m base t' wr' :=
  ⟨⟨ht.os.trans h.ext.os, ht.tape.trans h.ext.tape, ht.output.trans h.ext.output, Nat.le_trans h.ext.size ht.size, fun k hk => (ht.block k (Nat.lt_of_lt_of_le hk h.ext.size) (by omega)).trans (h.ext.block k hk)⟩,
    ht.cell h.c0 hb, ht.cell h.c1 hb, ht.cell h.c2 hb, ht.cell h.c3 hb, hr⟩
end
theorem take_all_step {p : Int → Bool} {l : List Int} {i : Nat} (hi : i < l.length) (h : (l.take i).all p = true) : (l.take (i + 1)).all p = p (gi l i) := by
  rw [take_gi hi, List.all_append, h]; simp
theorem take_all_no {p : Int → Bool} {l : List Int} {i : Nat} (h : (l.take i).all p = false) : l.all p = false := by
  rw [List.all_eq_false] at h ⊢
  obtain ⟨x, hx, hp⟩ := h
  exact ⟨x, List.mem_of_mem_take hx, hp⟩
set_option maxHeartbeats 8000000 in
theorem spec_LM (base places : Int) (a : Option Addr) (n c : Nat) (kinds : List Int) (w : World) (hc : Ints w a n c kinds) (hn : n ≤ 1048576) :
    Calls Try.prog 18 #[.int .i64 base, .int .i64 places, .slice a n c] w (RetNLB (lmZ base places kinds) (lmL base places kinds) (lmB base places kinds) w) := by
  obtain ⟨mo, hmo⟩ : ∃ mo : Int, mo = if base < 10 then 4 else 5 := ⟨_, rfl⟩
  have HSt := Lib.hid (spec_start base 2 places w)
  have HRi := Lib.hid (fun W (h : Ext w W) => spec_rises a n c kinds 0 mo W (hc.ext h) hn)
  have hln := hc.len
  have HKr := Lib.hid (kinds_rise (base := base) hln)
  rw [← hmo] at HKr
  rw [HKr.out] at HRi
  have HC := Lib.hid hc
  obtain ⟨b, off, hix, hcell⟩ := hc.ix (P := Try.prog) 22 2 und_int64s cell_int64
  have HKd := Lib.hid (fun (h : kindsB kinds base = true) => kindsB_all h)
  have HL := Lib.hid hln
  clear hc hln
  have way : ∀ (bl : Bool), decide (base < 10) = bl → Calls Try.prog 18 #[.int .i64 base, .int .i64 places, .slice a n c] w (RetNLB (lmZ base places kinds) (lmL base places kinds) (lmB base places kinds) w) := by
    intro bl hbl
    have hmo2 : mo = if bl = true then 4 else 5 := by rw [hmo, ← hbl]; simp
    clear hmo
    cases bl
    all_goals
      simp only [if_true, Bool.false_eq_true, if_false] at hmo2
      subst hmo2
      cases hs : searchB base 2 places
      · have HN := Lib.hid (show lmO base places kinds = none by
          unfold lmO
          split
          · rename_i hk
            unfold lmOk at hk
            simp only [Bool.and_eq_true] at hk
            have hp : inB places 1 20 = true := by have := hk.1; unfold manyB at this; simp only [Bool.and_eq_true] at this; exact this.2.1
            obtain ⟨p1, p2⟩ := inB_t.1 hp
            obtain ⟨np, rfl⟩ := Int.eq_ofNat_of_zero_le (show 0 ≤ places by omega)
            exact lmF_stop hs
          · rfl)
        go_enter Try.func18, Try.ntmps18
        go_wp2_with ((with_reducible refine HSt.out.mono ?_); rintro e w1 ⟨hx1, b1, m1, a1, n1, c1, rfl, -⟩; rw [hs])
        go_ret3
        exact lm_retN HN.out (by repeat (first | (with_reducible exact Ext.refl _) | (with_reducible assumption) | (with_reducible refine Ext.drewN ?_ _) | (with_reducible refine Ext.drew ?_) | (with_reducible refine Ext.alloc ?_ _) | ((with_reducible refine Ext.setCell ?_ ?_ _); rotate_left; focus (first | (simp; done) | (simp; omega) | omega)) | (with_reducible refine Ext.trans ?_ (by with_reducible assumption))))
      · obtain ⟨m0, np, hm0, rfl, hb, hm2', hnp, hN0⟩ := start_facts hs
        obtain rfl : m0 = 2 := by omega
        clear hm0
        have HMn := Lib.hid (many_of_search (m := 2) hs)
        cases hki : kindsB kinds base
        · rw [hki] at HRi
          have HN := Lib.hid (show lmO base np kinds = none by unfold lmO lmOk; rw [hki]; simp)
          go_enter Try.func18, Try.ntmps18
          go_wp2_with (first | ((with_reducible refine HSt.out.mono ?_); rintro e w1 ⟨hx1, b1, m1, a1, n1, c1, rfl, -⟩; rw [hs]) | ((with_reducible refine (HRi.out _ (by repeat (first | (with_reducible exact Ext.refl _) | (with_reducible assumption) | (with_reducible refine Ext.drewN ?_ _) | (with_reducible refine Ext.drew ?_) | (with_reducible refine Ext.alloc ?_ _) | ((with_reducible refine Ext.setCell ?_ ?_ _); rotate_left; focus (first | (simp; done) | (simp; omega) | omega)) | (with_reducible refine Ext.trans ?_ (by with_reducible assumption))))).mono ?_); rintro e w2 ⟨rfl, hy⟩; have hx2 : Ext w w2 := Ext.trans (by repeat (first | (with_reducible exact Ext.refl _) | (with_reducible assumption) | (with_reducible refine Ext.drewN ?_ _) | (with_reducible refine Ext.drew ?_) | (with_reducible refine Ext.alloc ?_ _) | ((with_reducible refine Ext.setCell ?_ ?_ _); rotate_left; focus (first | (simp; done) | (simp; omega) | omega)) | (with_reducible refine Ext.trans ?_ (by with_reducible assumption)))) hy))
          go_ret3
          exact lm_retN HN.out (by repeat (first | (with_reducible exact Ext.refl _) | (with_reducible assumption) | (with_reducible refine Ext.drewN ?_ _) | (with_reducible refine Ext.drew ?_) | (with_reducible refine Ext.alloc ?_ _) | ((with_reducible refine Ext.setCell ?_ ?_ _); rotate_left; focus (first | (simp; done) | (simp; omega) | omega)) | (with_reducible refine Ext.trans ?_ (by with_reducible assumption))))
        · rw [hki] at HRi
          have HKa := Lib.hid (HKd.out hki)
          have HO := Lib.hid (show lmO base np kinds = lmF base np kinds 40 2 by unfold lmO lmOk; rw [hki, HMn.out, Int.toNat_natCast]; rfl)
          clear hki
          go_enter Try.func18, Try.ntmps18
          go_wp2_with (first | ((with_reducible refine HSt.out.mono ?_); rintro e w1 ⟨hx1, b1, m1, a1, n1, c1, rfl, hy1⟩; obtain ⟨e1, e2, e3, e4, g1, rfl, ho1⟩ := hy1 hs; subst e2; have hx1' : Ext w (w1.alloc (.cells #[.int .i64 b1, .int .i64 2, .int .i64 0, .slice (some ⟨g1, 0, none⟩) n1 c1] 34)) := hx1.alloc _; have hcm : ∀ w', Ext (w1.alloc (.cells #[.int .i64 b1, .int .i64 2, .int .i64 0, .slice (some ⟨g1, 0, none⟩) n1 c1] 34)) w' → w'.cell? ⟨w1.heap.size, 1, none⟩ = some (.int .i64 2) := fun w' h => h.cell (by go_simp); clear e1 e3 e4 ho1 hy1; rw [hs]) | ((with_reducible refine (HRi.out _ (by repeat (first | (with_reducible exact Ext.refl _) | (with_reducible assumption) | (with_reducible refine Ext.drewN ?_ _) | (with_reducible refine Ext.drew ?_) | (with_reducible refine Ext.alloc ?_ _) | ((with_reducible refine Ext.setCell ?_ ?_ _); rotate_left; focus (first | (simp; done) | (simp; omega) | omega)) | (with_reducible refine Ext.trans ?_ (by with_reducible assumption))))).mono ?_); rintro e w2 ⟨rfl, hy⟩; have hx12 : Ext (w1.alloc (.cells #[.int .i64 b1, .int .i64 2, .int .i64 0, .slice (some ⟨g1, 0, none⟩) n1 c1] 34)) w2 := hy; have hx2 : Ext w w2 := Ext.trans (by repeat (first | (with_reducible exact Ext.refl _) | (with_reducible assumption) | (with_reducible refine Ext.drewN ?_ _) | (with_reducible refine Ext.drew ?_) | (with_reducible refine Ext.alloc ?_ _) | ((with_reducible refine Ext.setCell ?_ ?_ _); rotate_left; focus (first | (simp; done) | (simp; omega) | omega)) | (with_reducible refine Ext.trans ?_ (by with_reducible assumption)))) hy; clear hy))
          go_loopg [12, 13, 14, 15, 16] 38 (fun gk s12 _ _ _ _ wr => ∃ m : Nat, 2 ≤ m ∧ m ≤ 37 ∧ gk = 40 - m ∧ s12 = .int .i64 m ∧ Hid (lmO base np kinds = lmF base np kinds (42 - m) m) ∧ Ext w wr)
          case atStart => exact ⟨2, by omega, by omega, by omega, rfl, HO, hx2⟩
          case round =>
            obtain ⟨m, hm2, hm37, rfl, rfl, HM, hx⟩ := hrel
            have hf : 42 - m = (41 - m) + 1 := by omega
            rw [hf] at HM
            have HFw := Lib.hid (fun W => spec_few m np W (by omega) (by omega) (by omega))
            have hsp := search_split (m := m) HMn.out hm2
            by_cases hm36 : m ≤ 36
            rotate_left
            · have HN := Lib.hid (HM.out.trans (lmF_stop (by rw [hsp, decide_eq_false hm36]; rfl)))
              go_wp2_with fail
              go_ret3
              exact lm_retN HN.out hx
            cases hfw : decide ((m : Int) ^ np ≤ 20000)
            · rw [hfw] at HFw
              have HN := Lib.hid (HM.out.trans (lmF_stop (by rw [hsp, hfw]; simp)))
              clear hfw hsp
              go_wp2_with ((with_reducible refine (HFw.out _).mono ?_); rintro e w' ⟨rfl, rfl⟩)
              go_ret3
              exact lm_retN HN.out hx
            · rw [hfw] at HFw
              have hsr : searchB base m np = true := by rw [hsp, hfw, decide_eq_true hm36]; rfl
              obtain ⟨_, _, sN⟩ := search_m hsr
              have HSr := Lib.hid hsr
              clear hfw hsp hsr hf
              go_wp2_with (first | ((with_reducible refine (HFw.out _).mono ?_); rintro e w' ⟨rfl, rfl⟩) | (at_make; refine law_make _ rfl _ _ 22 rfl 2 (.int .i64 0) 8 und_int64s info_int64 rfl _ _ np rfl rfl (by omega) (by unfold maxLen; omega) ?_; intro w5 hown5 hx5 hsz5))
              obtain ⟨wr0, rfl⟩ : ∃ x, x = wr := ⟨_, rfl⟩
              have hs6 : (w5.alloc (.cells #[.int .i64 base, .int .i64 m, .int .i64 0, .slice (some ⟨wr0.heap.size, 0, none⟩) np np] 34)).heap.size = wr0.heap.size + 2 := by simp [hsz5]
              have HL0 := Lib.hid (show L2 wr0 (wr0.heap.size + 1) wr0.heap.size np m base 0 (w5.alloc (.cells #[.int .i64 base, .int .i64 m, .int .i64 0, .slice (some ⟨wr0.heap.size, 0, none⟩) np np] 34)) by
                rw [← hsz5]
                exact ⟨hx5.alloc _, by go_simp, by go_simp, by go_simp, by go_simp, by rw [Nat.zero_mod, tupAt_zero, I_replicate]; exact hown5.ext ((Ext.refl w5).alloc _)⟩)
              have hbg : wr0.heap.size + 1 ≠ wr0.heap.size := by omega
              have HGd := Lib.hid (fun t (ht : t < m ^ np) => good_tup (m := m) (n := np) (t := t) hb ⟨hm2, hm36⟩ hnp ht)
              obtain ⟨N, hN⟩ : ∃ N, N = m ^ np := ⟨_, rfl⟩
              have hNp : 0 < m ^ np := Nat.pow_pos (by omega)
              clear hown5 hx5 hsz5 hs6
              go_loopg [14, 15, 16] N (fun gk s14 _ _ wr => ∃ t, t ≤ N ∧ gk = N - t ∧ s14 = .bool (decide (t < N)) ∧ Hid (NoneT base m np kinds t) ∧ Hid (L2 wr0 (wr0.heap.size + 1) wr0.heap.size np m base t wr))
              case atStart => exact ⟨0, Nat.zero_le _, rfl, by rw [decide_eq_true (by omega)], Lib.hid (fun i hi => by omega), HL0⟩
              case round =>
                obtain ⟨t, ht, rfl, rfl, HNo, HL2⟩ := hrel
                obtain ⟨wr2, rfl⟩ : ∃ x, x = wr := ⟨_, rfl⟩
                have hx2' : Ext w wr2 := hx.trans HL2.out.ext
                by_cases htl : t < N
                · rw [decide_eq_true htl]
                  have htN : t < m ^ np := by omega
                  have HWt := Lib.hid (HL2.out.wt htN)
                  have HCt := Lib.hid (fun k (hk : k ∈ kinds) => spec_catches (wr0.heap.size + 1) ⟨base, m, 0, tupAt m np t⟩ (some ⟨wr0.heap.size, 0, none⟩) np np k wr2 HWt.out (HGd.out t htN) (HKa.out k hk))
                  have HNx := Lib.hid (spec_next m np t wr0.heap.size wr0.heap.size np wr2 (by omega) (by omega) (by omega) htN (by have := HL2.out.row; rwa [Nat.mod_eq_of_lt htN] at this))
                  have e1 := HL2.out.c1
                  have e3 := HL2.out.c3
                  go_wp2_with fail
                  go_loop [15, 16] (fun s15 s16 => ∃ (i : Nat) (fl : Bool), i ≤ n ∧ s16 = .int .i64 i ∧ s15 = .bool fl ∧ Hid (fl = (kinds.take i).all fun k => decide (allF ⟨base, m, 0, tupAt m np t⟩ k = 0))) (fun _ s16 => n - (intOf s16).toNat)
                  case atStart => exact ⟨0, true, Nat.zero_le _, rfl, rfl, rfl⟩
                  case round =>
                    obtain ⟨i, fl, hi, rfl, rfl, HFl⟩ := hrel
                    cases fl
                    · have HFi := Lib.hid (show fineB ⟨base, m, 0, tupAt m np t⟩ kinds = false from take_all_no HFl.out.symm)
                      by_cases hin : i < n
                      all_goals
                        go_wp2_with ((with_reducible refine HNx.out.mono ?_); rintro e w7 ⟨rfl, ht7, ho7⟩)
                        go_roundg (N - (t + 1))
                        case measure => omega
                        case rel => exact ⟨t + 1, by omega, rfl, by rw [hN], Lib.hid (HNo.out.step HFi.out), Lib.hid (HL2.out.go ht7 (Nat.le_refl _) hbg ho7)⟩
                    · by_cases hin : i < n
                      · have hmem := gi_mem (l := kinds) (k := i) (by rw [HL.out]; exact hin)
                        have HCi := Lib.hid (HCt.out _ hmem)
                        have HSi := Lib.hid (show ((kinds.take (i + 1)).all fun k => decide (allF ⟨base, m, 0, tupAt m np t⟩ k = 0)) = decide (allF ⟨base, m, 0, tupAt m np t⟩ (gi kinds i) = 0) from take_all_step (p := fun k => decide (allF ⟨base, m, 0, tupAt m np t⟩ k = 0)) (l := kinds) (i := i) (by rw [HL.out]; exact hin) HFl.out.symm)
                        obtain ⟨fl', hfl'⟩ : ∃ fl', fl' = decide (allF ⟨base, m, 0, tupAt m np t⟩ (gi kinds i) = 0) := ⟨_, rfl⟩
                        rw [← hfl'] at HCi HSi
                        clear hfl' hmem
                        go_wp2_with ((with_reducible refine HCi.out.mono ?_); rintro e w7 ⟨rfl, rfl⟩)
                        exact ⟨⟨i + 1, fl', by omega, by go_num, rfl, Lib.hid HSi.out.symm⟩, by simp [intOf]; omega⟩
                      · have HFi := Lib.hid (show fineB ⟨base, m, 0, tupAt m np t⟩ kinds = true by
                          have h := HFl.out.symm
                          rwa [take_full (by rw [HL.out]; omega)] at h)
                        have HMs := Lib.hid (HM.out.trans (lmF_hit HSr.out (least_some htN HNo.out HFi.out)))
                        go_wp2_with fail
                        go_region
                        go_wp2
                        go_ret3
                        have hwl := hx.le
                        exact lm_retS HMs.out hx2'.drew (Own.drew (by have h := HL2.out.row.mono (B' := w.heap.size) hwl; rwa [Nat.mod_eq_of_lt htN] at h))
                · obtain rfl : t = N := by omega
                  have hd : decide (t < t) = false := by simp
                  rw [hd]
                  have HMm := Lib.hid (HM.out.trans (lmF_miss HSr.out (least_none (by rw [← hN]; exact HNo.out))))
                  go_wp2_with fail
                  go_roundg (40 - (m + 1))
                  case measure => omega
                  case rel => exact ⟨m + 1, by omega, by omega, by omega, by go_num, by rw [show 42 - (m + 1) = 41 - m by omega]; exact HMm, hx2'⟩
  exact way _ rfl
end Go.Proofs.Ytlpbflmgkopklaa
