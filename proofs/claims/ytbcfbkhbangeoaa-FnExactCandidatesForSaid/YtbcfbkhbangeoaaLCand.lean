/- Walks: the laws' helpers on rows of candidates. -/
import Derived.Test.YtbcfbkhbangeoaaTyO
import Derived.Test.YtbcfbkhbangeoaaLMk
import Derived.Test.YtbcfbkhbangeoaaTyZ
import Derived.Test.YtbcfbkhbangeoaaLInts
namespace Go.Proofs.Ytbcfbkhbangeoaa
set_option maxRecDepth 100000
open Go.RowKit

/-- the candidate at a place -/
def gp (ps : List (ByteArray × Int)) (k : Nat) : ByteArray × Int := ps.getD k (.empty, 0)
theorem cell_cand : Try.prog.cellsOf 59 = 2 := by kernel_rfl
theorem cd_ix (g n c : Nat) (K : IntKind) (i : Nat) (hi : i < n) : ∀ w', (Instr.indexAt 27 (.slice (some ⟨g, 0, none⟩) n c) (.int K i)).run Try.prog w' = .ok (.pointer (some ⟨g, i * 2, none⟩)) w' := fun w' => by
  obtain ⟨j, hj, hjs⟩ := cellsOf_size cell_cand (by omega)
  have : (⟨g, 0, none⟩ : Addr).add (i * 2) = ⟨g, i * 2, none⟩ := by unfold Addr.add; simp; exact fun h => h.symm
  simp [Instr.indexAt, asIntOf, run_underlying und_cands, sizeOf, typeInfo, hj, hjs, Addr.add_lit, hi]
theorem cd_cells {w : World} {B g n c : Nat} {ps : List (ByteArray × Int)} (h : OwnS 2 w B 59 (some ⟨g, 0, none⟩) n c (encC ps)) (hl : ps.length = n) {i : Nat} (hi : i < n) :
    w.cell? ⟨g, i * 2, none⟩ = some (.string (gp ps i).1) ∧ w.cell? ⟨g, i * 2 + 1, none⟩ = some (.int .i64 (gp ps i).2) := by
  have e : ps[i]! = gp ps i := by rw [getElem!_pos ps i (by omega)]; simp [gp, show i < ps.length by omega]
  constructor
  · rw [World.ownsRow.cellAt h (i * 2) (by omega), encC_at ps _ (by omega), show i * 2 / 2 = i by omega, show i * 2 % 2 = 0 by omega, e]; rfl
  · rw [World.ownsRow.cellAt h (i * 2 + 1) (by omega), encC_at ps _ (by omega), show (i * 2 + 1) / 2 = i by omega, show (i * 2 + 1) % 2 = 1 by omega, e]; rfl
theorem eqCd (t : ByteArray) (v : Int) (w : World) : Calls Try.prog 43 #[.agg #[.string t, .int .i64 v], .agg #[.string t, .int .i64 v]] w (Ret (.bool true) w) := by
  go_enter Try.func43, Try.ntmps43
  go_wp2_with fail
  go_ret
  exact ⟨rfl, (by repeat (first | (with_reducible exact Ext.refl _) | (with_reducible refine Ext.drewN ?_ _) | (with_reducible refine Ext.drew ?_) | (with_reducible refine Ext.alloc ?_ _) | ((with_reducible refine Ext.setCell ?_ ?_ _); rotate_left; focus (first | (simp; done) | (simp; omega) | omega)) | assumption | (with_reducible refine Ext.trans ?_ (by assumption))))⟩
theorem OwnS.someG {s : Nat} {w : World} {B : Nat} {E : TypeId} {a : Option Addr} {n c : Nat} {vs : List Value} (h : OwnS s w B E a n c vs) (hn : 0 < n) : ∃ g, a = some ⟨g, 0, none⟩ ∧ B ≤ g ∧ g < w.heap.size := by
  rcases h.2 with ⟨h2, _⟩ | ⟨g, cap, cur, hv, hb, hg, _⟩
  · simp at h2; omega
  · simp only [Value.slice.injEq] at hv
    exact ⟨g, hv.1, hb, (Array.getElem?_eq_some_iff.1 hg).1⟩
set_option maxHeartbeats 1000000 in
theorem eqCds (B B' : Nat) (a a' : Option Addr) (n c c' : Nat) (ps : List (ByteArray × Int)) (w : World) (h : OwnS 2 w B 59 a n c (encC ps)) (h' : OwnS 2 w B' 59 a' n c' (encC ps)) (hl : ps.length = n) (hn : n ≤ 1048576) :
    Calls Try.prog 9 #[.slice a n c, .slice a' n c'] w (Ret (.bool true) w) := by
  have HO := Lib.hid h
  have HO' := Lib.hid h'
  have HL := Lib.hid hl
  clear h h' hl
  go_enter Try.func9, Try.ntmps9
  go_wp2_with fail
  go_loopw [5] (fun i wr => ∃ k : Nat, k ≤ n ∧ i = .int .i64 k ∧ Ext w wr) (fun i _ => n - (intOf i).toNat)
  case atStart => exact ⟨0, Nat.zero_le _, rfl, Ext.refl _⟩
  case round =>
    obtain ⟨k, hk, rfl, hx⟩ := hrel
    have hxr : Ext w wr := hx
    by_cases hlt : k < n
    · obtain ⟨g, rfl, _, _⟩ := HO.out.someG (by omega)
      obtain ⟨g', rfl, _, _⟩ := HO'.out.someG (by omega)
      have hi1 := cd_ix g n c .i64 k hlt
      have hi2 := cd_ix g' n c' .i64 k hlt
      have hc1 := fun W (h : Ext w W) => (cd_cells (HO.out.ext h) HL.out hlt).1
      have hc2 := fun W (h : Ext w W) => (cd_cells (HO.out.ext h) HL.out hlt).2
      have hd1 := fun W (h : Ext w W) => (cd_cells (HO'.out.ext h) HL.out hlt).1
      have hd2 := fun W (h : Ext w W) => (cd_cells (HO'.out.ext h) HL.out hlt).2
      have HE := Lib.hid (fun W => eqCd (gp ps k).1 (gp ps k).2 W)
      go_wp2
      (refine wp_region_from w (by repeat (first | (with_reducible exact Ext.refl _) | (with_reducible refine Ext.drewN ?_ _) | (with_reducible refine Ext.drew ?_) | (with_reducible refine Ext.alloc ?_ _) | ((with_reducible refine Ext.setCell ?_ ?_ _); rotate_left; focus (first | (simp; done) | (simp; omega) | omega)) | assumption | (with_reducible refine Ext.trans ?_ (by assumption)))) (by kernel_rfl) (by kernel_rfl) (by kernel_rfl) ?_; (repeat (first | (refine mix_q rfl ?_; go_big_quiet_step (fail); refine wpQuiet_nil ?_; show wpMix _ _ _ _ _ _ _) | (refine mix_s rfl ?_; go_wp2_with (((with_reducible refine (HE.out _).mono ?_); rintro e w1 ⟨rfl, hy1⟩; have hxw1 : Ext w w1 := Ext.trans (by repeat (first | (with_reducible exact Ext.refl _) | (with_reducible refine Ext.drewN ?_ _) | (with_reducible refine Ext.drew ?_) | (with_reducible refine Ext.alloc ?_ _) | ((with_reducible refine Ext.setCell ?_ ?_ _); rotate_left; focus (first | (simp; done) | (simp; omega) | omega)) | assumption | (with_reducible refine Ext.trans ?_ (by assumption)))) hy1; have hz1 := hy1; clear hy1)); first | refine ⟨up_of (by repeat (first | (with_reducible exact Ext.refl _) | (with_reducible refine Ext.drewN ?_ _) | (with_reducible refine Ext.drew ?_) | (with_reducible refine Ext.alloc ?_ _) | ((with_reducible refine Ext.setCell ?_ ?_ _); rotate_left; focus (first | (simp; done) | (simp; omega) | omega)) | assumption | (with_reducible refine Ext.trans ?_ (by assumption)))), ?_⟩ | refine ⟨rfl, rfl, up_of (by repeat (first | (with_reducible exact Ext.refl _) | (with_reducible refine Ext.drewN ?_ _) | (with_reducible refine Ext.drew ?_) | (with_reducible refine Ext.alloc ?_ _) | ((with_reducible refine Ext.setCell ?_ ?_ _); rotate_left; focus (first | (simp; done) | (simp; omega) | omega)) | assumption | (with_reducible refine Ext.trans ?_ (by assumption)))), ?_⟩))); refine mix_nil ?_)
      go_wp2_with fail
      exact ⟨⟨k + 1, by omega, by go_num, (by repeat (first | (with_reducible exact Ext.refl _) | (with_reducible refine Ext.drewN ?_ _) | (with_reducible refine Ext.drew ?_) | (with_reducible refine Ext.alloc ?_ _) | ((with_reducible refine Ext.setCell ?_ ?_ _); rotate_left; focus (first | (simp; done) | (simp; omega) | omega)) | assumption | (with_reducible refine Ext.trans ?_ (by assumption))))⟩, by simp [intOf]; omega⟩
    · go_wp2_with fail
      go_ret
      exact ⟨rfl, hx⟩
/-- the marks -/
def markCs (k n : Nat) : List (ByteArray × Int) := (List.range n).map fun i => (markT (k + 2 * i), ((k + 2 * i + 1 : Nat) : Int))
theorem markCs_len (k n : Nat) : (markCs k n).length = n := by simp [markCs]
theorem markCs_step (k n : Nat) : markCs k (n + 1) = markCs k n ++ [(markT (k + 2 * n), ((k + 2 * n + 1 : Nat) : Int))] := by unfold markCs; rw [List.range_succ, List.map_append]; rfl
theorem markCs_gp {k n i : Nat} (h : i < n) : gp (markCs k n) i = (markT (k + 2 * i), ((k + 2 * i + 1 : Nat) : Int)) := by simp [gp, markCs, h]
theorem encC_set : ∀ (ps : List (ByteArray × Int)) (i : Nat) (t : ByteArray) (v : Int), i < ps.length → ((encC ps).set (i * 2) (.string t)).set (i * 2 + 1) (.int .i64 v) = encC (ps.set i (t, v))
  | [], _, _, _, h => by simp at h
  | p :: r, 0, t, v, _ => by simp [encC]
  | p :: r, i + 1, t, v, h => by
    have e : encC (p :: r) = Value.string p.1 :: Value.int .i64 p.2 :: encC r := by simp [encC]
    have ih := encC_set r i t v (by simpa using h)
    rw [e, show (i + 1) * 2 = i * 2 + 1 + 1 by omega, show i * 2 + 1 + 1 + 1 = (i * 2 + 1) + 1 + 1 by omega]
    simp only [List.set_cons_succ]
    rw [ih]; simp [encC]
theorem drop_setC (k j : Nat) (ps : List (ByteArray × Int)) (hj : j < ps.length) (x : ByteArray × Int) : (markCs k j ++ ps.drop j).set j x = markCs k j ++ [x] ++ ps.drop (j + 1) := by
  have e : ps.drop j = ps[j] :: ps.drop (j + 1) := List.drop_eq_getElem_cons hj
  rw [List.set_append_right _ _ (by rw [markCs_len]; exact Nat.le_refl _), markCs_len, Nat.sub_self, e, List.set_cons_zero, List.append_assoc]
  rfl
theorem cd_at {w : World} {B g n c : Nat} {vs : List Value} (h : OwnS 2 w B 59 (some ⟨g, 0, none⟩) n c vs) (i : Nat) (hi : i < n * 2) : (∃ y, w.cell? ⟨g, i, none⟩ = some y) ∧ w.frozen? ⟨g, i, none⟩ = false := by
  have hl : vs.length = n * 2 := h.1
  refine ⟨⟨vs[i]'(by omega), ?_⟩, World.ownsRow.frozenAt h i⟩
  rw [World.ownsRow.cellAt h i hi, List.getElem?_eq_getElem (by omega)]
set_option maxHeartbeats 2000000 in
theorem markCds (a : Option Addr) (n c : Nat) (ps : List (ByteArray × Int)) (k lo hi : Nat) (w : World) (h : OwnS 2 w lo 59 a n c (encC ps)) (htop : ∀ g, a = some g → g.block < hi) (hl : ps.length = n) (hhi : hi ≤ w.heap.size) (hk : k + n ≤ 4194304) :
    Calls Try.prog 12 #[.slice a n c, .int .i64 k] w (fun e w' => e = .returned (.int .i64 ((k : Int) + 2 * n)) ∧ Chg lo hi w w' ∧ OwnS 2 w' lo 59 a n c (encC (markCs k n))) := by
  have HO0 := Lib.hid h
  have HL := Lib.hid hl
  have HTop := Lib.hid htop
  clear h hl htop
  go_enter Try.func12, Try.ntmps12
  go_wp2_with fail
  go_loopw [1, 5] (fun x i wr => ∃ (j : Nat), j ≤ n ∧ i = .int .i64 j ∧ x = .int .i64 ((k : Int) + 2 * j) ∧ Hid (Chg lo hi w wr) ∧ hi ≤ wr.heap.size ∧ Hid (OwnS 2 wr lo 59 a n c (encC (markCs k j ++ ps.drop j)))) (fun _ i _ => n - (intOf i).toNat)
  case atStart => exact ⟨0, Nat.zero_le _, rfl, by simp, Chg.refl _ _ _, hhi, by rw [Hid, List.drop_zero]; exact HO0.out⟩
  case round =>
    obtain ⟨j, hj, rfl, rfl, HC, hsz, HO⟩ := hrel
    by_cases hlt : j < n
    · obtain ⟨g, rfl, hglo, hgw⟩ := HO.out.someG (by omega)
      have hgt := HTop.out _ rfl
      have hi1 := cd_ix g n c .i64 j hlt
      have hmt : ∀ w, Calls Try.prog 48 #[.int .i64 ((k : Int) + 2 * j)] w (Ret (.string (markT (k + 2 * j))) w) := fun w => by
        rw [show ((k : Int) + 2 * j) = ((k + 2 * j : Nat) : Int) by omega]; exact markTextX (k + 2 * j) w (by omega)
      have Hhmt := Lib.hid hmt; clear hmt
      obtain ⟨t, ht⟩ : ∃ t, t = markT (k + 2 * j) := ⟨_, rfl⟩
      have HTk := Lib.hid ht
      rw [← ht] at Hhmt
      clear ht
      have hl2 : j * 2 < n * 2 := by omega
      have hl3 : j * 2 + 1 < n * 2 := by omega
      go_wp2_with (go_at_call 48; refine (Hhmt.out _).mono ?_; rintro e w1 ⟨rfl, hx1⟩; have HO1 := Lib.hid (OwnS.ext HO.out hx1); obtain ⟨⟨y1, hy1⟩, hf1⟩ := cd_at HO1.out (j * 2) hl2; have HO2 := Lib.hid (World.ownsRow.stored HO1.out (j * 2) (.string t)).1; obtain ⟨⟨y2, hy2⟩, hf2⟩ := cd_at HO2.out (j * 2 + 1) hl3)
      have ho3 := (World.ownsRow.stored HO2.out (j * 2 + 1) (.int .i64 ((k : Int) + 2 * j + 1))).1
      rw [encC_set _ j t _ (by rw [List.length_append, markCs_len, List.length_drop, HL.out]; omega), drop_setC k j ps (by rw [HL.out]; exact hlt), HTk.out, show (k : Int) + 2 * j + 1 = ((k + 2 * j + 1 : Nat) : Int) by omega, ← markCs_step, ← HTk.out] at ho3
      have hc1 := (HC.out.trans (Chg.ext hx1 lo hi)).trans (Chg.set w1 (j * 2) (.string t) hglo hgt)
      refine ⟨⟨j + 1, by omega, by go_num, by go_num, hc1.trans (Chg.set _ (j * 2 + 1) _ hglo hgt), by rw [size_setCell, size_setCell]; exact Nat.le_trans hsz hx1.le, ?_⟩, by simp [intOf]; omega⟩
      rw [show (k : Int) + 2 * j + 1 = ((k + 2 * j + 1 : Nat) : Int) by omega]; exact ho3
    · obtain rfl : j = n := by omega
      go_wp2_with fail
      go_ret
      refine ⟨ri (by omega), HC.out, ?_⟩
      have := HO.out
      rwa [List.drop_of_length_le (by rw [HL.out]; exact Nat.le_refl _), List.append_nil] at this
set_option maxHeartbeats 2000000 in
theorem heldCds (B : Nat) (a : Option Addr) (n c : Nat) (k : Nat) (w : World) (h : OwnS 2 w B 59 a n c (encC (markCs k n))) (hk : k + n ≤ 4194304) :
    Calls Try.prog 13 #[.slice a n c, .int .i64 k] w (Ret (.int .i64 ((k : Int) + 2 * n)) w) := by
  have HO := Lib.hid h
  clear h
  go_enter Try.func13, Try.ntmps13
  go_wp2_with fail
  go_loopw [1, 5] (fun x i wr => ∃ j : Nat, j ≤ n ∧ i = .int .i64 j ∧ x = .int .i64 ((k : Int) + 2 * j) ∧ Ext w wr) (fun _ i _ => n - (intOf i).toNat)
  case atStart => exact ⟨0, Nat.zero_le _, rfl, by simp, Ext.refl _⟩
  case round =>
    obtain ⟨j, hj, rfl, rfl, hx⟩ := hrel
    have hxr : Ext w wr := hx
    by_cases hlt : j < n
    · obtain ⟨g, rfl, _, _⟩ := HO.out.someG (by omega)
      have hi1 := cd_ix g n c .i64 j hlt
      have hc1 := fun W (h : Ext w W) => (cd_cells (HO.out.ext h) (markCs_len k n) hlt).1
      have hc2 := fun W (h : Ext w W) => (cd_cells (HO.out.ext h) (markCs_len k n) hlt).2
      rw [markCs_gp hlt] at hc1 hc2
      have hmt : ∀ w, Calls Try.prog 48 #[.int .i64 ((k : Int) + 2 * j)] w (Ret (.string (markT (k + 2 * j))) w) := fun w => by
        rw [show ((k : Int) + 2 * j) = ((k + 2 * j : Nat) : Int) by omega]; exact markTextX (k + 2 * j) w (by omega)
      have Hhmt := Lib.hid hmt; clear hmt
      simp only at hc1 hc2
      generalize markT (k + 2 * j) = t at *
      rw [show ((k + 2 * j + 1 : Nat) : Int) = (k : Int) + 2 * j + 1 by omega] at hc2
      go_wp2
      (refine wp_region_from w (by repeat (first | (with_reducible exact Ext.refl _) | (with_reducible refine Ext.drewN ?_ _) | (with_reducible refine Ext.drew ?_) | (with_reducible refine Ext.alloc ?_ _) | ((with_reducible refine Ext.setCell ?_ ?_ _); rotate_left; focus (first | (simp; done) | (simp; omega) | omega)) | assumption | (with_reducible refine Ext.trans ?_ (by assumption)))) (by kernel_rfl) (by kernel_rfl) (by kernel_rfl) ?_; (repeat (first | (refine mix_q rfl ?_; go_big_quiet_step (fail); refine wpQuiet_nil ?_; show wpMix _ _ _ _ _ _ _) | (refine mix_s rfl ?_; go_wp2_with (((with_reducible refine (Hhmt.out _).mono ?_); rintro e w4 ⟨rfl, hy4⟩; have hxw4 : Ext w w4 := Ext.trans (by repeat (first | (with_reducible exact Ext.refl _) | (with_reducible refine Ext.drewN ?_ _) | (with_reducible refine Ext.drew ?_) | (with_reducible refine Ext.alloc ?_ _) | ((with_reducible refine Ext.setCell ?_ ?_ _); rotate_left; focus (first | (simp; done) | (simp; omega) | omega)) | assumption | (with_reducible refine Ext.trans ?_ (by assumption)))) hy4; have hz4 := hy4; clear hy4)); first | refine ⟨up_of (by repeat (first | (with_reducible exact Ext.refl _) | (with_reducible refine Ext.drewN ?_ _) | (with_reducible refine Ext.drew ?_) | (with_reducible refine Ext.alloc ?_ _) | ((with_reducible refine Ext.setCell ?_ ?_ _); rotate_left; focus (first | (simp; done) | (simp; omega) | omega)) | assumption | (with_reducible refine Ext.trans ?_ (by assumption)))), ?_⟩ | refine ⟨rfl, rfl, up_of (by repeat (first | (with_reducible exact Ext.refl _) | (with_reducible refine Ext.drewN ?_ _) | (with_reducible refine Ext.drew ?_) | (with_reducible refine Ext.alloc ?_ _) | ((with_reducible refine Ext.setCell ?_ ?_ _); rotate_left; focus (first | (simp; done) | (simp; omega) | omega)) | assumption | (with_reducible refine Ext.trans ?_ (by assumption)))), ?_⟩))); refine mix_nil ?_)
      have hc3 := hc2 w4 hxw4
      clear hc2
      go_wp2_with fail
      exact ⟨⟨j + 1, by omega, by go_num, by go_num, hxw4⟩, by simp [intOf]; omega⟩
    · obtain rfl : j = n := by omega
      go_wp2_with fail
      go_ret
      exact ⟨rfl, hx⟩
end Go.Proofs.Ytbcfbkhbangeoaa

/- The candidates of a word: both sides hand back the same ones. -/
namespace Go.Proofs.Ytbcfbkhbangeoaa
set_option maxRecDepth 100000
open Go.RowKit

def GoodC (D : Ch) (s : ByteArray) (ps : List (ByteArray × Int)) : Prop := (runOk D s = false → ps = []) ∧ (runOk D s = true → ∀ bs : Nat, D.base = (bs : Int) → IsC (putsF D bs (digC s) 0) ps)
theorem base_nat {D : Ch} {s : ByteArray} (h : runOk D s = true) : ∃ bs : Nat, D.base = (bs : Int) ∧ bs ≤ 36 ∧ (digC s).length ≤ 20 := by
  have hv : validCh D = true ∧ wordCh D s = true := by unfold runOk at h; simpa using h
  have hok := validCh_ok hv.1
  obtain ⟨bs, hbs⟩ : ∃ bs : Nat, D.base = (bs : Int) := Int.eq_ofNat_of_zero_le (by have := hok.b2; omega)
  exact ⟨bs, hbs, by have := hok.b36; omega, by rw [(word_facts hv.2).2]; exact hok.p20⟩
theorem GoodC.eq {D : Ch} {s : ByteArray} {ps qs : List (ByteArray × Int)} (h : GoodC D s ps) (k : GoodC D s qs) : ps = qs := by
  cases hr : runOk D s
  · rw [h.1 hr, k.1 hr]
  · obtain ⟨bs, hbs, _⟩ := base_nat hr
    exact (h.2 hr bs hbs).eq (k.2 hr bs hbs)
open Classical in
/-- the candidates -/
noncomputable def candV (D : Ch) (s : ByteArray) : List (ByteArray × Int) := if h : ∃ ps, GoodC D s ps then Classical.choose h else []
theorem candV_eq {D : Ch} {s : ByteArray} {ps : List (ByteArray × Int)} (h : GoodC D s ps) : candV D s = ps := by
  have hx : ∃ ps, GoodC D s ps := ⟨ps, h⟩
  unfold candV
  rw [dif_pos hx]
  exact (Classical.choose_spec hx).eq h
theorem putsF_len (D : Ch) (bs : Nat) (ds : List Int) (hb : bs ≤ 36) (hd : ds.length ≤ 20) : ∀ n m, m + n = 6 → (putsF D bs ds m).length ≤ n * 1000
  | 0, m, e => by
    obtain rfl : m = 6 := by omega
    exact Nat.zero_le _
  | n + 1, m, e => by
    have h1 := putsF_len D bs ds hb hd n (m + 1) (by omega)
    have h2 : (rowK D bs ds m).length ≤ 1000 := by
      unfold rowK
      split
      · unfold putsK
        rw [List.length_map]
        have := List.length_filter_le (chkD D) ((wrongL m bs ds).take (wrongL m bs ds).length)
        rw [List.take_of_length_le (Nat.le_refl _)] at this ⊢
        exact Nat.le_trans this (wrongL_le m bs ds hb hd)
      · simp
    rw [putsF_step D bs ds (by omega), List.length_append]; omega
theorem candV_len (D : Ch) (s : ByteArray) : (candV D s).length ≤ 1048576 := by
  by_cases hx : ∃ ps, GoodC D s ps
  · obtain ⟨ps, hg⟩ := hx
    rw [candV_eq hg]
    cases hr : runOk D s
    · rw [hg.1 hr]; simp
    · obtain ⟨bs, hbs, h36, h20⟩ := base_nat hr
      have hI := hg.2 hr bs hbs
      have hn : (ps.map Prod.fst).Nodup := asc_nodup (List.pairwise_map.2 hI.1)
      have h1 := nodup_le hn (l' := (putsF D bs (digC s) 0).map Prod.fst) fun x hx => by
        obtain ⟨p, hp, rfl⟩ := List.mem_map.1 hx
        exact ((hI.2 p.1 p.2).1 hp).1
      rw [List.length_map, List.length_map] at h1
      have h2 := putsF_len D bs (digC s) h36 h20 6 0 rfl
      omega
  · unfold candV; rw [dif_neg hx]; simp
/-- a fresh row of these candidates -/
def RetCs (ps : List (ByteArray × Int)) (ok : Bool) (w : World) (e : Ending) (w' : World) : Prop := ∃ a c, e = .returned (.tuple #[.slice a ps.length c, .bool ok]) ∧ OwnS 2 w' w.heap.size 59 a ps.length c (encC ps) ∧ Ext w w'
theorem RetCd.cs {D : Ch} {s : ByteArray} {w : World} {e : Ending} {w' : World} (h : RetCd D s w e w') : RetCs (candV D s) (runOk D s) w e w' := by
  obtain ⟨a, c, ps, rfl, hx, ho, h1, h2⟩ := h
  rw [candV_eq ⟨h1, h2⟩]
  exact ⟨a, c, rfl, ho, hx⟩
theorem spec_CandR (D : Ch) (a : Option Addr) (n c : Nat) (b : Option Addr) (m d : Nat) (s : ByteArray) (w : World) (hv : ChIn w D a n c b m d) (hs : s.size ≤ 1048576) :
    Calls Try.prog 6 #[.agg #[.int .i64 D.base, .int .i64 D.states, .int .i64 D.start, .int .i64 D.fin, .slice a n c, .slice b m d], .string s] w (RetCs (candV D s) (runOk D s) w) := (spec_Cand D a n c b m d s w hv hs).mono fun _ _ h => h.cs
theorem impl_CandR (D : Ch) (a : Option Addr) (n c : Nat) (b : Option Addr) (m d : Nat) (s : ByteArray) (w : World) (hv : ChIn w D a n c b m d) (hs : s.size ≤ 1048576) :
    Calls Try.prog 8 #[.agg #[.int .i64 D.base, .int .i64 D.states, .int .i64 D.start, .int .i64 D.fin, .slice a n c, .slice b m d], .string s] w (RetCs (candV D s) (runOk D s) w) := (impl_Cand D a n c b m d s w hv.ts hv.ps hv.hn hv.hn' hv.sm hs).mono fun _ _ h => h.cs
end Go.Proofs.Ytbcfbkhbangeoaa

/- Walk: FnExactCandidatesFor. -/
namespace Go.Proofs.Ytbcfbkhbangeoaa
set_option maxRecDepth 100000
open Go.RowKit

/-- a row of candidates, read; of the call's own, between two bounds -/
def CdS (w : World) (a : Option Addr) (n c : Nat) (ps : List (ByteArray × Int)) : Prop := OwnS 2 w 0 59 a n c (encC ps)
def CdIn (w : World) (lo hi : Nat) (a : Option Addr) (n c : Nat) (ps : List (ByteArray × Int)) : Prop := OwnS 2 w lo 59 a n c (encC ps) ∧ ∀ g, a = some g → g.block < hi
theorem CdS.ext {w w' : World} {a : Option Addr} {n c : Nat} {ps : List (ByteArray × Int)} (h : CdS w a n c ps) (hx : Ext w w') : CdS w' a n c ps := OwnS.ext h hx
theorem CdIn.s {w : World} {lo hi : Nat} {a : Option Addr} {n c : Nat} {ps : List (ByteArray × Int)} (h : CdIn w lo hi a n c ps) : CdS w a n c ps := OwnS.mono h.1 (Nat.zero_le _)
theorem CdIn.ext {w w' : World} {lo hi : Nat} {a : Option Addr} {n c : Nat} {ps : List (ByteArray × Int)} (h : CdIn w lo hi a n c ps) (hx : Ext w w') : CdIn w' lo hi a n c ps := ⟨OwnS.ext h.1 hx, h.2⟩
theorem CdIn.chg {w w' : World} {lo hi lo' hi' : Nat} {a : Option Addr} {n c : Nat} {ps : List (ByteArray × Int)} (h : CdIn w lo hi a n c ps) (hc : Chg lo' hi' w w') (ho : hi' ≤ lo ∨ hi ≤ lo') : CdIn w' lo hi a n c ps := by
  refine ⟨⟨h.1.1, ?_⟩, h.2⟩
  rcases h.1.2 with h2 | ⟨g, cap, cur, hv, hb, hg, r⟩
  · exact .inl h2
  · have hgh : g < hi := h.2 ⟨g, 0, none⟩ (by simp only [Value.slice.injEq] at hv; exact hv.1)
    exact .inr ⟨g, cap, cur, hv, hb, (hc.block g (Array.getElem?_eq_some_iff.1 hg).1 (by omega)).trans hg, r⟩
theorem eqCdT (a a' : Option Addr) (n c c' : Nat) (ps : List (ByteArray × Int)) (w : World) (h : CdS w a n c ps) (h' : CdS w a' n c' ps) (hl : ps.length = n) (hn : n ≤ 1048576) :
    Calls Try.prog 9 #[.slice a n c, .slice a' n c'] w (Ret (.bool true) w) := eqCds 0 0 a a' n c c' ps w h h' hl hn
theorem heldCd1 (a : Option Addr) (n c : Nat) (w : World) (h : CdS w a n c (markCs 1 n)) (hk : n ≤ 4194303) :
    Calls Try.prog 13 #[.slice a n c, .int .i64 1] w (Ret (.int .i64 (1 + 2 * (n : Int))) w) := heldCds 0 a n c 1 w h (by omega)
theorem markCd1 (a : Option Addr) (n c : Nat) (ps : List (ByteArray × Int)) (lo hi : Nat) (w : World) (h : CdIn w lo hi a n c ps) (hl : ps.length = n) (hhi : hi ≤ w.heap.size) (hk : n ≤ 4194303) :
    Calls Try.prog 12 #[.slice a n c, .int .i64 1] w (fun e w' => e = .returned (.int .i64 (1 + 2 * (n : Int))) ∧ Chg lo hi w w' ∧ CdS w' a n c (markCs 1 n)) :=
  (markCds a n c ps 1 lo hi w h.1 h.2 hl hhi (by omega)).mono fun _ _ ⟨h1, h2, h3⟩ => ⟨h1, h2, OwnS.mono h3 (Nat.zero_le _)⟩
theorem OwnS.cdIn {w : World} {lo : Nat} {a : Option Addr} {n c : Nat} {ps : List (ByteArray × Int)} (h : OwnS 2 w lo 59 a n c (encC ps)) : CdIn w lo w.heap.size a n c ps :=
  ⟨h, fun g hg => by
    rcases h.2 with ⟨h2, _⟩ | ⟨q, cap, cur, hv, hb, hg', _⟩
    · subst hg; cases h2
    · simp only [Value.slice.injEq] at hv
      rw [hv.1] at hg; cases hg
      exact (Array.getElem?_eq_some_iff.1 hg').1⟩

set_option maxHeartbeats 16000000 in
theorem lawCandidatesFor (D : Ch) (a : Option Addr) (n c : Nat) (b : Option Addr) (m d : Nat) (s : ByteArray) (w : World) (hv : RawCh w D a n c b m d) (hz : s.size ≤ 9223372036854775807) :
    Calls Try.prog 3 #[.agg #[.int .i64 D.base, .int .i64 D.states, .int .i64 D.start, .int .i64 D.fin, .slice a n c, .slice b m d], .string s] w (Ret (.bool true) w) := by
  have HRaw := Lib.hid hv
  have HSz := Lib.hid (szCh D a n c b m d 1048576 (w.alloc (.cells #[.int .i64 D.base, .int .i64 D.states, .int .i64 D.start, .int .i64 D.fin, .slice a n c, .slice b m d] 25)) (hv.ext ((Ext.refl w).alloc _)) (by omega) (by omega))
  clear hv
  by_cases hz1 : s.size ≤ 1048576
  rotate_left
  · go_enter Try.func3, Try.ntmps3
    go_wp2_with fail
    go_ret
    exact ⟨rfl, (by repeat (first | (with_reducible exact Ext.refl _) | (with_reducible refine Ext.drewN ?_ _) | (with_reducible refine Ext.drew ?_) | (with_reducible refine Ext.alloc ?_ _) | ((with_reducible refine Ext.setCell ?_ ?_ _); rotate_left; focus (first | (simp; done) | (simp; omega) | omega)) | assumption | (with_reducible refine Ext.trans ?_ (by assumption))))⟩
  by_cases hsz : chSize D ≤ 1048576
  rotate_left
  · rw [leftOf_no hsz] at HSz
    go_enter Try.func3, Try.ntmps3
    go_wp2_with (refine HSz.out.mono ?_; rintro e w1 ⟨rfl, hy1⟩)
    go_ret
    exact ⟨rfl, (by repeat (first | (with_reducible exact Ext.refl _) | (with_reducible refine Ext.drewN ?_ _) | (with_reducible refine Ext.drew ?_) | (with_reducible refine Ext.alloc ?_ _) | ((with_reducible refine Ext.setCell ?_ ?_ _); rotate_left; focus (first | (simp; done) | (simp; omega) | omega)) | assumption | (with_reducible refine Ext.trans ?_ (by assumption))))⟩
  have HI := Lib.hid (HRaw.out.inn hsz)
  rw [leftOf_yes hsz] at HSz
  have HSize := Lib.hid hsz
  have HSm := Lib.hid (show SmallCh D from HI.out.sm)
  have hn1 : n ≤ 1048576 := HI.out.hn
  have HSp := Lib.hid (fun W ax cx bx dx h => spec_CandR D ax n cx bx m dx s W h (by omega))
  have HIm := Lib.hid (fun W ax cx bx dx h => impl_CandR D ax n cx bx m dx s W h (by omega))
  obtain ⟨ts, hts⟩ : ∃ ts, ts = candV D s := ⟨_, rfl⟩
  have htn : ts.length ≤ 1048576 := by rw [hts]; exact candV_len D s
  obtain ⟨ok, hok⟩ : ∃ ok, ok = runOk D s := ⟨_, rfl⟩
  rw [← hts, ← hok] at HSp HIm
  clear hts hok
  go_enter Try.func3, Try.ntmps3
  go_wp2_with fail
  obtain ⟨wb, hwb⟩ : ∃ wb, wb = w.alloc (.cells #[.int .i64 D.base, .int .i64 D.states, .int .i64 D.start, .int .i64 D.fin, .slice a n c, .slice b m d] 25) := ⟨_, rfl⟩
  have hxb : Ext w wb := by rw [hwb]; exact (by repeat (first | (with_reducible exact Ext.refl _) | (with_reducible refine Ext.drewN ?_ _) | (with_reducible refine Ext.drew ?_) | (with_reducible refine Ext.alloc ?_ _) | ((with_reducible refine Ext.setCell ?_ ?_ _); rotate_left; focus (first | (simp; done) | (simp; omega) | omega)) | assumption | (with_reducible refine Ext.trans ?_ (by assumption))))
  have HS0 := Lib.hid (show SAt wb w.heap.size 25 #[.int .i64 D.base, .int .i64 D.states, .int .i64 D.start, .int .i64 D.fin, .slice a n c, .slice b m d] by rw [hwb]; exact SAt.new' _ _ _ rfl)
  rw [← hwb] at HSz ⊢
  have hqb : w.heap.size < wb.heap.size := HS0.out.lt
  clear hwb
  have HIb := Lib.hid (HI.out.ext hxb)
  obtain ⟨p0, p1, p2, p3, p4, p5⟩ := SAt.r6 HS0.out
  refine HSz.out.mono ?_
  rintro e w1 ⟨rfl, hy1⟩
  have hx1 : Ext wb w1 := hy1
  go_wp2_with fail
  refine (toChr D a n c b m d _ (HIb.out.ext (by repeat (first | (with_reducible exact Ext.refl _) | (with_reducible assumption) | (with_reducible refine Ext.drewN ?_ _) | (with_reducible refine Ext.drew ?_) | (with_reducible refine Ext.alloc ?_ _) | ((with_reducible refine Ext.setCell ?_ ?_ _); rotate_left; focus (first | (simp; done) | (simp; omega) | omega)) | (with_reducible refine Ext.trans ?_ (by with_reducible assumption)))))).mono ?_
  rintro e w2 ⟨a2, c2, b2, d2, rfl, hr2, hy2⟩
  have hx2 : Ext wb w2 := Ext.trans (by repeat (first | (with_reducible exact Ext.refl _) | (with_reducible assumption) | (with_reducible refine Ext.drewN ?_ _) | (with_reducible refine Ext.drew ?_) | (with_reducible refine Ext.alloc ?_ _) | ((with_reducible refine Ext.setCell ?_ ?_ _); rotate_left; focus (first | (simp; done) | (simp; omega) | omega)) | (with_reducible refine Ext.trans ?_ (by with_reducible assumption)))) hy2
  have HI2 := Lib.hid (hr2.inn HIb.out.hn HIb.out.hn' HSm.out)
  clear hr2
  go_wp2_with fail
  refine (HSp.out _ a2 c2 b2 d2 HI2.out).mono ?_
  rintro e w3 ⟨a3, c3, rfl, hs3, hy3⟩
  have hx3 : Ext wb w3 := hx2.trans hy3
  have HL3 := Lib.hid (show CdS w3 a3 ts.length c3 ts from OwnS.mono hs3 (Nat.zero_le _))
  clear hs3
  go_wp2_with fail
  refine (toChr D a n c b m d _ (HIb.out.ext (by repeat (first | (with_reducible exact Ext.refl _) | (with_reducible assumption) | (with_reducible refine Ext.drewN ?_ _) | (with_reducible refine Ext.drew ?_) | (with_reducible refine Ext.alloc ?_ _) | ((with_reducible refine Ext.setCell ?_ ?_ _); rotate_left; focus (first | (simp; done) | (simp; omega) | omega)) | (with_reducible refine Ext.trans ?_ (by with_reducible assumption)))))).mono ?_
  rintro e w4 ⟨a4, c4, b4, d4, rfl, hr4, hy4⟩
  have hx4 : Ext wb w4 := Ext.trans (by repeat (first | (with_reducible exact Ext.refl _) | (with_reducible assumption) | (with_reducible refine Ext.drewN ?_ _) | (with_reducible refine Ext.drew ?_) | (with_reducible refine Ext.alloc ?_ _) | ((with_reducible refine Ext.setCell ?_ ?_ _); rotate_left; focus (first | (simp; done) | (simp; omega) | omega)) | (with_reducible refine Ext.trans ?_ (by with_reducible assumption)))) hy4
  have hl34 : w3.heap.size ≤ w4.heap.size := hy4.le
  have hxz4 : Ext w3 w4 := hy4
  have HR4 := Lib.hid hr4
  have HI4 := Lib.hid (hr4.inn HIb.out.hn HIb.out.hn' HSm.out)
  clear hr4
  go_wp2_with fail
  have HS8 := Lib.hid (SAt.new' w4 #[.int .i64 D.base, .int .i64 D.states, .int .i64 D.start, .int .i64 D.fin, .slice a4 n c4, .slice b4 m d4] 30 rfl)
  obtain ⟨w4a, hw4a⟩ : ∃ w4a, w4a = w4.alloc (.cells #[.int .i64 D.base, .int .i64 D.states, .int .i64 D.start, .int .i64 D.fin, .slice a4 n c4, .slice b4 m d4] 30) := ⟨_, rfl⟩
  have hx4a : Ext w4 w4a := by rw [hw4a]; exact (by repeat (first | (with_reducible exact Ext.refl _) | (with_reducible refine Ext.drewN ?_ _) | (with_reducible refine Ext.drew ?_) | (with_reducible refine Ext.alloc ?_ _) | ((with_reducible refine Ext.setCell ?_ ?_ _); rotate_left; focus (first | (simp; done) | (simp; omega) | omega)) | assumption | (with_reducible refine Ext.trans ?_ (by assumption))))
  have hl4 : w4.heap.size < w4a.heap.size := by rw [hw4a]; simp
  rw [← hw4a] at HS8 ⊢
  clear hw4a
  have hxb4 : Ext wb w4a := hx4.trans hx4a
  obtain ⟨x0, x1, x2, x3, x4, x5⟩ := SAt.r6 HS8.out
  try go_wp2_with fail
  refine (HIm.out _ a4 c4 b4 d4 (HI4.out.ext hx4a)).mono ?_
  rintro e w5 ⟨a5, c5, rfl, ho5, hy5⟩
  have hx5 : Ext w4a w5 := hy5
  have hxb5 : Ext wb w5 := hxb4.trans hx5
  have hl45 : w4a.heap.size ≤ w5.heap.size := hx5.le
  have hx35 : Ext w3 w5 := hxz4.trans (hx4a.trans hx5)
  have HO5 := Lib.hid (show CdIn w5 w4a.heap.size w5.heap.size a5 ts.length c5 ts from OwnS.cdIn ho5)
  have HLg5 := Lib.hid (show CdS w5 a5 ts.length c5 ts from OwnS.mono ho5 (Nat.zero_le _))
  have HL5 := Lib.hid (CdS.ext HL3.out hx35)
  clear ho5
  go_wp2_with (go_at_call 9; (with_reducible refine (eqCdT a5 a3 ts.length c5 c3 ts _ ((show CdS w5 a5 ts.length c5 ts from HLg5.out).ext (by repeat (first | (with_reducible exact Ext.refl _) | (with_reducible assumption) | (with_reducible refine Ext.drewN ?_ _) | (with_reducible refine Ext.drew ?_) | (with_reducible refine Ext.alloc ?_ _) | ((with_reducible refine Ext.setCell ?_ ?_ _); rotate_left; focus (first | (simp; done) | (simp; omega) | omega)) | (with_reducible refine Ext.trans ?_ (by with_reducible assumption))))) ((show CdS w5 a3 ts.length c3 ts from HL5.out).ext (by repeat (first | (with_reducible exact Ext.refl _) | (with_reducible assumption) | (with_reducible refine Ext.drewN ?_ _) | (with_reducible refine Ext.drew ?_) | (with_reducible refine Ext.alloc ?_ _) | ((with_reducible refine Ext.setCell ?_ ?_ _); rotate_left; focus (first | (simp; done) | (simp; omega) | omega)) | (with_reducible refine Ext.trans ?_ (by with_reducible assumption))))) rfl (by omega)).mono ?_); rintro e w6 ⟨rfl, hys⟩; have hx6 : Ext w5 w6 := Ext.trans (by repeat (first | (with_reducible exact Ext.refl _) | (with_reducible assumption) | (with_reducible refine Ext.drewN ?_ _) | (with_reducible refine Ext.drew ?_) | (with_reducible refine Ext.alloc ?_ _) | ((with_reducible refine Ext.setCell ?_ ?_ _); rotate_left; focus (first | (simp; done) | (simp; omega) | omega)) | (with_reducible refine Ext.trans ?_ (by with_reducible assumption)))) hys; clear hys)
  have hxb6 : Ext wb w6 := hxb5.trans hx6
  have hx4a6 : Ext w4a w6 := hx5.trans hx6
  have HX6 := Lib.hid ((HI4.out.ext hx4a).ext (hx5.trans hx6))
  have HIb6 := Lib.hid (HIb.out.ext hxb6)
  (refine wp_region_from w6 (by repeat (first | (with_reducible exact Ext.refl _) | (with_reducible refine Ext.drewN ?_ _) | (with_reducible refine Ext.drew ?_) | (with_reducible refine Ext.alloc ?_ _) | ((with_reducible refine Ext.setCell ?_ ?_ _); rotate_left; focus (first | (simp; done) | (simp; omega) | omega)) | assumption | (with_reducible refine Ext.trans ?_ (by assumption)))) (by kernel_rfl) (by kernel_rfl) (by kernel_rfl) ?_; (repeat (first | (refine mix_q rfl ?_; go_big_quiet_step (fail); refine wpQuiet_nil ?_; show wpMix _ _ _ _ _ _ _) | (refine mix_s rfl ?_; go_wp2_with (first | (go_at_call 7; (with_reducible refine (toChr D a n c b m d _ (HIb6.out.ext (by repeat (first | (with_reducible exact Ext.refl _) | (with_reducible assumption) | (with_reducible refine Ext.drewN ?_ _) | (with_reducible refine Ext.drew ?_) | (with_reducible refine Ext.alloc ?_ _) | ((with_reducible refine Ext.setCell ?_ ?_ _); rotate_left; focus (first | (simp; done) | (simp; omega) | omega)) | (with_reducible refine Ext.trans ?_ (by with_reducible assumption)))))).mono ?_); rintro e w7 ⟨a7, c7, b7, d7, rfl, hr7, hy7⟩; have hx7 : Ext w6 w7 := Ext.trans (by repeat (first | (with_reducible exact Ext.refl _) | (with_reducible assumption) | (with_reducible refine Ext.drewN ?_ _) | (with_reducible refine Ext.drew ?_) | (with_reducible refine Ext.alloc ?_ _) | ((with_reducible refine Ext.setCell ?_ ?_ _); rotate_left; focus (first | (simp; done) | (simp; omega) | omega)) | (with_reducible refine Ext.trans ?_ (by with_reducible assumption)))) hy7; have HI7 := Lib.hid (hr7.inn HIb.out.hn HIb.out.hn' HSm.out); clear hr7 hy7) | (go_at_call 10; (with_reducible refine (eqCh D a4 n c4 b4 m d4 a7 c7 b7 d7 _ (HX6.out.ext (by repeat (first | (with_reducible exact Ext.refl _) | (with_reducible assumption) | (with_reducible refine Ext.drewN ?_ _) | (with_reducible refine Ext.drew ?_) | (with_reducible refine Ext.alloc ?_ _) | ((with_reducible refine Ext.setCell ?_ ?_ _); rotate_left; focus (first | (simp; done) | (simp; omega) | omega)) | (with_reducible refine Ext.trans ?_ (by with_reducible assumption))))) HI7.out).mono ?_); rintro e w8 ⟨rfl, hy8⟩; have hx8 : Ext w6 w8 := Ext.trans (by repeat (first | (with_reducible exact Ext.refl _) | (with_reducible assumption) | (with_reducible refine Ext.drewN ?_ _) | (with_reducible refine Ext.drew ?_) | (with_reducible refine Ext.alloc ?_ _) | ((with_reducible refine Ext.setCell ?_ ?_ _); rotate_left; focus (first | (simp; done) | (simp; omega) | omega)) | (with_reducible refine Ext.trans ?_ (by with_reducible assumption)))) hy8; clear hy8)); first | refine ⟨up_of (by repeat (first | (with_reducible exact Ext.refl _) | (with_reducible refine Ext.drewN ?_ _) | (with_reducible refine Ext.drew ?_) | (with_reducible refine Ext.alloc ?_ _) | ((with_reducible refine Ext.setCell ?_ ?_ _); rotate_left; focus (first | (simp; done) | (simp; omega) | omega)) | assumption | (with_reducible refine Ext.trans ?_ (by assumption)))), ?_⟩ | refine ⟨rfl, rfl, up_of (by repeat (first | (with_reducible exact Ext.refl _) | (with_reducible refine Ext.drewN ?_ _) | (with_reducible refine Ext.drew ?_) | (with_reducible refine Ext.alloc ?_ _) | ((with_reducible refine Ext.setCell ?_ ?_ _); rotate_left; focus (first | (simp; done) | (simp; omega) | omega)) | assumption | (with_reducible refine Ext.trans ?_ (by assumption)))), ?_⟩))); refine mix_nil ?_)
  have hx58 : Ext w5 w8 := hx6.trans hx8
  have hxb8 : Ext wb w8 := hxb6.trans hx8
  have hx4a8 : Ext w4a w8 := hx5.trans hx58
  go_wp2_with fail
  have hl8 : w5.heap.size ≤ w8.heap.size := hx58.le
  have hl8b : w4.heap.size ≤ w8.heap.size := by omega
  refine (markChR D a4 n c4 b4 m d4 1 w3.heap.size w4.heap.size _ ((HR4.out.ext hx4a).ext (hx5.trans (hx58.trans (by repeat (first | (with_reducible exact Ext.refl _) | (with_reducible assumption) | (with_reducible refine Ext.drewN ?_ _) | (with_reducible refine Ext.drew ?_) | (with_reducible refine Ext.alloc ?_ _) | ((with_reducible refine Ext.setCell ?_ ?_ _); rotate_left; focus (first | (simp; done) | (simp; omega) | omega)) | (with_reducible refine Ext.trans ?_ (by with_reducible assumption))))))) (by first | exact hl8b | (simp; omega)) hn1 (by have := szCh2_le HSize.out; omega) (small_tabs HSm.out)).mono ?_
  rintro e w9 ⟨rfl, hc9, _⟩
  have hc9 : Chg w3.heap.size w4.heap.size w5 w9 := (Chg.ext (hx58.trans (by repeat (first | (with_reducible exact Ext.refl _) | (with_reducible assumption) | (with_reducible refine Ext.drewN ?_ _) | (with_reducible refine Ext.drew ?_) | (with_reducible refine Ext.alloc ?_ _) | ((with_reducible refine Ext.setCell ?_ ?_ _); rotate_left; focus (first | (simp; done) | (simp; omega) | omega)) | (with_reducible refine Ext.trans ?_ (by with_reducible assumption))))) _ _).trans hc9
  have hl9 : w5.heap.size ≤ w9.heap.size := hc9.size
  have hlb : wb.heap.size ≤ w3.heap.size := hx3.le
  have hx39 : Ext w3 w9 := hc9.to hx35 (Nat.le_refl _)
  have hxb9 : Ext wb w9 := hx3.trans hx39
  clear x0 x1 x2 x3 x4 x5
  have HO9 := Lib.hid (HO5.out.chg hc9 (.inl (by omega)))
  have HLg9 := Lib.hid (show CdS w9 a5 ts.length c5 ts from HO9.out.s)
  have HL9 := Lib.hid (CdS.ext HL3.out hx39)
  obtain ⟨z9, hz9⟩ : ∃ z, z = szCh2 D := ⟨_, rfl⟩
  rw [← hz9]
  clear hz9 hc9
  go_wp2_with (go_at_call 9; (with_reducible refine (eqCdT a5 a3 ts.length c5 c3 ts _ ((show CdS w9 a5 ts.length c5 ts from HLg9.out).ext (by repeat (first | (with_reducible exact Ext.refl _) | (with_reducible assumption) | (with_reducible refine Ext.drewN ?_ _) | (with_reducible refine Ext.drew ?_) | (with_reducible refine Ext.alloc ?_ _) | ((with_reducible refine Ext.setCell ?_ ?_ _); rotate_left; focus (first | (simp; done) | (simp; omega) | omega)) | (with_reducible refine Ext.trans ?_ (by with_reducible assumption))))) ((show CdS w9 a3 ts.length c3 ts from HL9.out).ext (by repeat (first | (with_reducible exact Ext.refl _) | (with_reducible assumption) | (with_reducible refine Ext.drewN ?_ _) | (with_reducible refine Ext.drew ?_) | (with_reducible refine Ext.alloc ?_ _) | ((with_reducible refine Ext.setCell ?_ ?_ _); rotate_left; focus (first | (simp; done) | (simp; omega) | omega)) | (with_reducible refine Ext.trans ?_ (by with_reducible assumption))))) rfl (by omega)).mono ?_); rintro e w10 ⟨rfl, hys⟩; have hx10 : Ext w9 w10 := Ext.trans (by repeat (first | (with_reducible exact Ext.refl _) | (with_reducible assumption) | (with_reducible refine Ext.drewN ?_ _) | (with_reducible refine Ext.drew ?_) | (with_reducible refine Ext.alloc ?_ _) | ((with_reducible refine Ext.setCell ?_ ?_ _); rotate_left; focus (first | (simp; done) | (simp; omega) | omega)) | (with_reducible refine Ext.trans ?_ (by with_reducible assumption)))) hys; clear hys)
  have hl10 : w9.heap.size ≤ w10.heap.size := hx10.le
  refine (markCd1 a5 ts.length c5 ts w4a.heap.size w5.heap.size _ (HO9.out.ext (hx10.trans (by repeat (first | (with_reducible exact Ext.refl _) | (with_reducible assumption) | (with_reducible refine Ext.drewN ?_ _) | (with_reducible refine Ext.drew ?_) | (with_reducible refine Ext.alloc ?_ _) | ((with_reducible refine Ext.setCell ?_ ?_ _); rotate_left; focus (first | (simp; done) | (simp; omega) | omega)) | (with_reducible refine Ext.trans ?_ (by with_reducible assumption)))))) rfl (by first | omega | (simp; omega)) (by omega)).mono ?_
  rintro e w11 ⟨rfl, hc11, ho11⟩
  have hc11 : Chg w4a.heap.size w5.heap.size w9 w11 := (Chg.ext (hx10.trans (by repeat (first | (with_reducible exact Ext.refl _) | (with_reducible assumption) | (with_reducible refine Ext.drewN ?_ _) | (with_reducible refine Ext.drew ?_) | (with_reducible refine Ext.alloc ?_ _) | ((with_reducible refine Ext.setCell ?_ ?_ _); rotate_left; focus (first | (simp; done) | (simp; omega) | omega)) | (with_reducible refine Ext.trans ?_ (by with_reducible assumption))))) _ _).trans hc11
  have hx311 : Ext w3 w11 := hc11.to hx39 (by omega)
  have hxb11 : Ext wb w11 := hx3.trans hx311
  have HIb11 := Lib.hid (HIb.out.ext hxb11)
  have HL11 := Lib.hid (CdS.ext HL3.out hx311)
  have HHd := Lib.hid (fun W (h : Ext w11 W) => heldCd1 a5 ts.length c5 W (CdS.ext ho11 h) (by omega))
  clear hc11 ho11
  go_wp2_with (go_at_call 13; (with_reducible refine (HHd.out _ (by repeat (first | (with_reducible exact Ext.refl _) | (with_reducible assumption) | (with_reducible refine Ext.drewN ?_ _) | (with_reducible refine Ext.drew ?_) | (with_reducible refine Ext.alloc ?_ _) | ((with_reducible refine Ext.setCell ?_ ?_ _); rotate_left; focus (first | (simp; done) | (simp; omega) | omega)) | (with_reducible refine Ext.trans ?_ (by with_reducible assumption))))).mono ?_); rintro e w12 ⟨rfl, hyh⟩; have hx12 : Ext w11 w12 := Ext.trans (by repeat (first | (with_reducible exact Ext.refl _) | (with_reducible assumption) | (with_reducible refine Ext.drewN ?_ _) | (with_reducible refine Ext.drew ?_) | (with_reducible refine Ext.alloc ?_ _) | ((with_reducible refine Ext.setCell ?_ ?_ _); rotate_left; focus (first | (simp; done) | (simp; omega) | omega)) | (with_reducible refine Ext.trans ?_ (by with_reducible assumption)))) hyh; clear hyh; have hxb12 : Ext wb w12 := hxb11.trans hx12)
  refine (toChr D a n c b m d _ (HIb11.out.ext (hx12.trans (by repeat (first | (with_reducible exact Ext.refl _) | (with_reducible assumption) | (with_reducible refine Ext.drewN ?_ _) | (with_reducible refine Ext.drew ?_) | (with_reducible refine Ext.alloc ?_ _) | ((with_reducible refine Ext.setCell ?_ ?_ _); rotate_left; focus (first | (simp; done) | (simp; omega) | omega)) | (with_reducible refine Ext.trans ?_ (by with_reducible assumption))))))).mono ?_
  rintro e w13 ⟨a13, c13, b13, d13, rfl, hr13, hy13⟩
  have hx13 : Ext w11 w13 := Ext.trans (hx12.trans (by repeat (first | (with_reducible exact Ext.refl _) | (with_reducible assumption) | (with_reducible refine Ext.drewN ?_ _) | (with_reducible refine Ext.drew ?_) | (with_reducible refine Ext.alloc ?_ _) | ((with_reducible refine Ext.setCell ?_ ?_ _); rotate_left; focus (first | (simp; done) | (simp; omega) | omega)) | (with_reducible refine Ext.trans ?_ (by with_reducible assumption))))) hy13
  have HI13 := Lib.hid (hr13.inn HIb.out.hn HIb.out.hn' HSm.out)
  clear hr13 hy13
  go_wp2_with fail
  refine (HIm.out _ a13 c13 b13 d13 HI13.out).mono ?_
  rintro e w14 ⟨a14, c14, rfl, ho14, hy14⟩
  have hx14 : Ext w11 w14 := hx13.trans hy14
  have HLg14 := Lib.hid (show CdS w14 a14 ts.length c14 ts from OwnS.mono ho14 (Nat.zero_le _))
  have HL14 := Lib.hid (CdS.ext HL11.out hx14)
  clear ho14 hy14
  go_wp2_with (first | (go_at_call 9; (with_reducible refine (eqCdT a14 a3 ts.length c14 c3 ts _ ((show CdS w14 a14 ts.length c14 ts from HLg14.out).ext (by repeat (first | (with_reducible exact Ext.refl _) | (with_reducible assumption) | (with_reducible refine Ext.drewN ?_ _) | (with_reducible refine Ext.drew ?_) | (with_reducible refine Ext.alloc ?_ _) | ((with_reducible refine Ext.setCell ?_ ?_ _); rotate_left; focus (first | (simp; done) | (simp; omega) | omega)) | (with_reducible refine Ext.trans ?_ (by with_reducible assumption))))) ((show CdS w14 a3 ts.length c3 ts from HL14.out).ext (by repeat (first | (with_reducible exact Ext.refl _) | (with_reducible assumption) | (with_reducible refine Ext.drewN ?_ _) | (with_reducible refine Ext.drew ?_) | (with_reducible refine Ext.alloc ?_ _) | ((with_reducible refine Ext.setCell ?_ ?_ _); rotate_left; focus (first | (simp; done) | (simp; omega) | omega)) | (with_reducible refine Ext.trans ?_ (by with_reducible assumption))))) rfl (by omega)).mono ?_); rintro e w15 ⟨rfl, hys⟩; have hx15 : Ext w14 w15 := Ext.trans (by repeat (first | (with_reducible exact Ext.refl _) | (with_reducible assumption) | (with_reducible refine Ext.drewN ?_ _) | (with_reducible refine Ext.drew ?_) | (with_reducible refine Ext.alloc ?_ _) | ((with_reducible refine Ext.setCell ?_ ?_ _); rotate_left; focus (first | (simp; done) | (simp; omega) | omega)) | (with_reducible refine Ext.trans ?_ (by with_reducible assumption)))) hys; have hxy15 : Ext w11 w15 := hx14.trans hx15; clear hys) | (go_at_call 13; (with_reducible refine (HHd.out _ (by repeat (first | (with_reducible exact Ext.refl _) | (with_reducible assumption) | (with_reducible refine Ext.drewN ?_ _) | (with_reducible refine Ext.drew ?_) | (with_reducible refine Ext.alloc ?_ _) | ((with_reducible refine Ext.setCell ?_ ?_ _); rotate_left; focus (first | (simp; done) | (simp; omega) | omega)) | (with_reducible refine Ext.trans ?_ (by with_reducible assumption))))).mono ?_); rintro e w16 ⟨rfl, hyh⟩; have hx16 : Ext w11 w16 := Ext.trans (by repeat (first | (with_reducible exact Ext.refl _) | (with_reducible assumption) | (with_reducible refine Ext.drewN ?_ _) | (with_reducible refine Ext.drew ?_) | (with_reducible refine Ext.alloc ?_ _) | ((with_reducible refine Ext.setCell ?_ ?_ _); rotate_left; focus (first | (simp; done) | (simp; omega) | omega)) | (with_reducible refine Ext.trans ?_ (by with_reducible assumption)))) hyh; clear hyh))
  go_ret
  exact ⟨rfl, hxb.trans (hxb11.trans (by repeat (first | (with_reducible exact Ext.refl _) | (with_reducible assumption) | (with_reducible refine Ext.drewN ?_ _) | (with_reducible refine Ext.drew ?_) | (with_reducible refine Ext.alloc ?_ _) | ((with_reducible refine Ext.setCell ?_ ?_ _); rotate_left; focus (first | (simp; done) | (simp; omega) | omega)) | (with_reducible refine Ext.trans ?_ (by with_reducible assumption)))))⟩
end Go.Proofs.Ytbcfbkhbangeoaa
