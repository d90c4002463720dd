/- Walks: words with one symbol more or less; those that are checked, in order. -/
import Derived.Test.YtcdoanookiimaaaDel
import Derived.Test.YtcdoanookiimaaaR8
import Derived.Test.YtcdoanookiimaaaChW
namespace Go.Proofs.Ytcdoanookiimaaa
set_option maxRecDepth 100000
open Go.RowKit

/-- a fresh row that is not nil -/
def RetRow (l : List ByteArray) (w : World) (e : Ending) (w' : World) : Prop :=
  ∃ g c, e = .returned (.slice (some ⟨g, 0, none⟩) l.length c) ∧ Own w' w.heap.size 9 (some ⟨g, 0, none⟩) l.length c (St l) ∧ Ext w w'
theorem own_some {w : World} {B : Nat} {E : TypeId} {a : Option Addr} {n c : Nat} {vs : List Value} (h : Own w B E a n c vs) (hn : 0 < n) : ∃ g, a = some ⟨g, 0, none⟩ := by
  rcases h.2 with ⟨_, h1⟩ | ⟨g, cap, cur, hv, _⟩
  · omega
  · simp only [Value.slice.injEq, true_and] at hv
    exact ⟨g, hv.1⟩
theorem RetRow.mk {l : List ByteArray} {w w' : World} {a : Option Addr} {n c : Nat} (ho : Own w' w.heap.size 9 a n c (St l)) (hn : 0 < n) (hx : Ext w w') : RetRow l w (.returned (.slice a n c)) w' := by
  have hl : l.length = n := (St_len l).symm.trans ho.len
  obtain ⟨g, rfl⟩ := own_some ho hn
  subst hl
  exact ⟨g, c, rfl, ho, hx⟩
set_option maxHeartbeats 4000000 in
theorem impl_inserted (s : ByteArray) (b : Nat) (w : World) (hs : s.size ≤ 20) (hb : 2 ≤ b) (hb2 : b ≤ 36) : Calls Try.prog 80 #[.string s, .int .i64 (b : Int)] w (RetRow (insT s b (s.size + 1)) w) := by
  have HSy := Lib.hid (fun d h => sym_at d h)
  have HLs := Lib.hid (insT_len s b)
  have HLb := Lib.hid (fun (k : Nat) (h : k ≤ s.size + 1) => show k * b ≤ 1000 from Nat.le_trans (Nat.mul_le_mul h hb2) (by omega))
  go_enter Try.func80, Try.ntmps80
  go_wp2_with fail
  go_loopw [5, 12] (fun o ii wr => ∃ (i : Nat) (ad : Option Addr) (c : Nat), i ≤ s.size + 1 ∧ ii = .int .i64 i ∧ o = .slice ad (i * b) c ∧ Hid (Own wr w.heap.size 9 ad (i * b) c (St (insT s b i))) ∧ Ext w wr) (fun _ ii _ => s.size + 1 - (intOf ii).toNat)
  case atStart => exact ⟨0, _, _, by omega, rfl, by rw [Nat.zero_mul], by rw [Hid, Nat.zero_mul]; exact Own.lit0 w _, (by repeat (first | (with_reducible exact Ext.refl _) | (with_reducible refine Ext.drewN ?_ _) | (with_reducible refine Ext.drew ?_) | (with_reducible refine Ext.alloc ?_ _) | ((with_reducible refine Ext.setCell ?_ ?_ _); rotate_left; focus (first | (simp; done) | (simp; omega) | omega)) | assumption | (with_reducible refine Ext.trans ?_ (by assumption))))⟩
  case round =>
    obtain ⟨i, ad, c, hi, rfl, rfl, HO, hx⟩ := hrel
    by_cases hlt : i < s.size + 1
    · have hlb := HLb.out (i + 1) (by omega)
      have HSt := Lib.hid (insT_step s b i)
      have HMl := Lib.hid (show (i + 1) * b = i * b + b from Nat.succ_mul i b)
      obtain ⟨L, hL⟩ : ∃ L, L = insT s b i := ⟨_, rfl⟩
      rw [← hL] at HO HSt
      rw [HMl.out] at hlb
      obtain ⟨p, hp⟩ : ∃ p, p = i * b := ⟨_, rfl⟩
      rw [← hp] at HO hlb HMl ⊢
      clear hL hp
      go_wp2_with fail
      rw [show decide ((i : Int) < (s.size : Int) + 1) = true from decide_eq_true (by omega)]
      go_loopw [5, 16] (fun o dd wr => ∃ (d : Nat) (ad : Option Addr) (c : Nat), d ≤ b ∧ dd = .int .i64 d ∧ o = .slice ad (p + d) c ∧ Hid (Own wr w.heap.size 9 ad (p + d) c (St (L ++ insRow s d i))) ∧ Ext w wr) (fun _ dd _ => b - (intOf dd).toNat)
      case atStart => exact ⟨0, ad, c, by omega, rfl, rfl, by rw [Hid]; simp only [insRow, List.range_zero, List.map_nil, List.append_nil]; exact HO.out, hx⟩
      case round =>
        obtain ⟨d, ad2, c2, hd, rfl, rfl, HO2, hx2⟩ := hrel
        by_cases hltd : d < b
        · have HSr := Lib.hid (insRow_step s d i)
          have HSd := Lib.hid (HSy.out d (by omega))
          go_wp2
          (refine wp_region_from w (by repeat (first | (with_reducible exact Ext.refl _) | (with_reducible refine Ext.drewN ?_ _) | (with_reducible refine Ext.drew ?_) | (with_reducible refine Ext.alloc ?_ _) | ((with_reducible refine Ext.setCell ?_ ?_ _); rotate_left; focus (first | (simp; done) | (simp; omega) | omega)) | assumption | (with_reducible refine Ext.trans ?_ (by assumption)))) (by kernel_rfl) (by kernel_rfl) (by kernel_rfl) ?_; (repeat (first | (refine mix_q rfl ?_; go_big_quiet_step (fail); refine wpQuiet_nil ?_; show wpMix _ _ _ _ _ _ _) | (refine mix_s rfl ?_; go_wp2_with ((at_builtin; refine law_append1 wr.drew rfl _ _ 28 rfl 9 (.string .empty) 16 und_strs info_str rfl w.heap.size ad2 (p + d) c2 _ _ rfl rfl rfl HO2.out.drew (hx2.drew).le (by omega) (by omega) ?_; intro ad3 c3 w3 ho3 hb3 _; have hx3 : Ext w w3 := Ext.below hx2.drew hb3; clear hb3)); first | refine ⟨up_of (by repeat (first | (with_reducible exact Ext.refl _) | (with_reducible refine Ext.drewN ?_ _) | (with_reducible refine Ext.drew ?_) | (with_reducible refine Ext.alloc ?_ _) | ((with_reducible refine Ext.setCell ?_ ?_ _); rotate_left; focus (first | (simp; done) | (simp; omega) | omega)) | assumption | (with_reducible refine Ext.trans ?_ (by assumption)))), ?_⟩ | refine ⟨rfl, rfl, up_of (by repeat (first | (with_reducible exact Ext.refl _) | (with_reducible refine Ext.drewN ?_ _) | (with_reducible refine Ext.drew ?_) | (with_reducible refine Ext.alloc ?_ _) | ((with_reducible refine Ext.setCell ?_ ?_ _); rotate_left; focus (first | (simp; done) | (simp; omega) | omega)) | assumption | (with_reducible refine Ext.trans ?_ (by assumption)))), ?_⟩))); refine mix_nil ?_)
          go_wp2
          exact ⟨⟨d + 1, ad3, c3, hltd, by go_num, by rw [Nat.add_assoc], by
            rw [Hid, HSr.out, ← List.append_assoc, St_append (L ++ insRow s d i), ← Nat.add_assoc]
            rw [HSd.out] at ho3
            exact ho3, hx3⟩, by simp [intOf]; omega⟩
        · obtain rfl : d = b := by omega
          go_wp2
          exact ⟨⟨i + 1, ad2, c2, by omega, by go_num, by rw [HMl.out], by rw [Hid, HMl.out, HSt.out]; exact HO2.out, hx2⟩, by simp [intOf]; omega⟩
    · obtain rfl : i = s.size + 1 := by omega
      go_wp2
      go_ret
      exact RetRow.mk HO.out (Nat.mul_pos (by omega) (by omega)) hx
set_option maxHeartbeats 4000000 in
theorem impl_shortened (s : ByteArray) (w : World) (hs : s.size ≤ 20) (h1 : 1 ≤ s.size) : Calls Try.prog 81 #[.string s] w (RetRow (cutT s s.size) w) := by
  go_enter Try.func81, Try.ntmps81
  go_wp2_with fail
  go_loopw [3, 8] (fun o ii wr => ∃ (i : Nat) (ad : Option Addr) (c : Nat), i ≤ s.size ∧ ii = .int .i64 i ∧ o = .slice ad i c ∧ Hid (Own wr w.heap.size 9 ad i c (St (cutT s i))) ∧ Ext w wr) (fun _ ii _ => s.size - (intOf ii).toNat)
  case atStart => exact ⟨0, _, _, by omega, rfl, rfl, Own.lit0 w _, (by repeat (first | (with_reducible exact Ext.refl _) | (with_reducible refine Ext.drewN ?_ _) | (with_reducible refine Ext.drew ?_) | (with_reducible refine Ext.alloc ?_ _) | ((with_reducible refine Ext.setCell ?_ ?_ _); rotate_left; focus (first | (simp; done) | (simp; omega) | omega)) | assumption | (with_reducible refine Ext.trans ?_ (by assumption))))⟩
  case round =>
    obtain ⟨i, ad, c, hi, rfl, rfl, HO, hx⟩ := hrel
    by_cases hlt : i < s.size
    · have HSt := Lib.hid (cutT_step s i)
      go_wp2
      (refine wp_region_from w (by repeat (first | (with_reducible exact Ext.refl _) | (with_reducible refine Ext.drewN ?_ _) | (with_reducible refine Ext.drew ?_) | (with_reducible refine Ext.alloc ?_ _) | ((with_reducible refine Ext.setCell ?_ ?_ _); rotate_left; focus (first | (simp; done) | (simp; omega) | omega)) | assumption | (with_reducible refine Ext.trans ?_ (by assumption)))) (by kernel_rfl) (by kernel_rfl) (by kernel_rfl) ?_; (repeat (first | (refine mix_q rfl ?_; go_big_quiet_step (fail); refine wpQuiet_nil ?_; show wpMix _ _ _ _ _ _ _) | (refine mix_s rfl ?_; go_wp2_with ((at_builtin; refine law_append1 wr.drew rfl _ _ 28 rfl 9 (.string .empty) 16 und_strs info_str rfl w.heap.size ad i c _ _ rfl rfl rfl HO.out.drew (hx.drew).le (by omega) (by omega) ?_; intro ad3 c3 w3 ho3 hb3 _; have hx3 : Ext w w3 := Ext.below hx.drew hb3; clear hb3)); first | refine ⟨up_of (by repeat (first | (with_reducible exact Ext.refl _) | (with_reducible refine Ext.drewN ?_ _) | (with_reducible refine Ext.drew ?_) | (with_reducible refine Ext.alloc ?_ _) | ((with_reducible refine Ext.setCell ?_ ?_ _); rotate_left; focus (first | (simp; done) | (simp; omega) | omega)) | assumption | (with_reducible refine Ext.trans ?_ (by assumption)))), ?_⟩ | refine ⟨rfl, rfl, up_of (by repeat (first | (with_reducible exact Ext.refl _) | (with_reducible refine Ext.drewN ?_ _) | (with_reducible refine Ext.drew ?_) | (with_reducible refine Ext.alloc ?_ _) | ((with_reducible refine Ext.setCell ?_ ?_ _); rotate_left; focus (first | (simp; done) | (simp; omega) | omega)) | assumption | (with_reducible refine Ext.trans ?_ (by assumption)))), ?_⟩))); refine mix_nil ?_)
      go_wp2
      exact ⟨⟨i + 1, ad3, c3, hlt, by go_num, rfl, by rw [Hid, HSt.out, St_append]; exact ho3, hx3⟩, by simp [intOf]; omega⟩
    · obtain rfl : i = s.size := by omega
      go_wp2
      go_ret
      exact RetRow.mk HO.out h1 hx
set_option maxHeartbeats 2000000 in
theorem impl_ordered (g n c B : Nat) (l : List ByteArray) (w0 w : World) (ho : Own w B 9 (some ⟨g, 0, none⟩) n c (St l)) (hn : n ≤ 1048576) (_h0 : Ext w0 w) (_hB : w0.heap.size ≤ B) :
    Calls Try.prog 141 #[.slice (some ⟨g, 0, none⟩) n c] w (fun e w' => e = .returned (.slice (some ⟨g, 0, none⟩) (ordS l).length c) ∧ Own w' B 9 (some ⟨g, 0, none⟩) (ordS l).length c (St (ordS l)) ∧ Chg g (g + 1) w w') := by
  have hl : l.length = n := (St_len l).symm.trans ho.len
  have HS := Lib.hid (sort_strs g n c B l w ho hn)
  have hg := ho.lt
  have HC := Lib.hid (fun W (h : Own W B 9 (some ⟨g, 0, none⟩) n c (St (sortS l))) => compactT g n c B (sortK l) W (by rw [sortK_enc]; exact h) hn)
  have HE := Lib.hid (ordK_enc l)
  have HL := Lib.hid (ordS_len l)
  clear ho
  go_enter Try.func141, Try.ntmps141
  go_wp2_with (refine HS.out.mono ?_; rintro e w1 ⟨rfl, ho1, hg1⟩)
  have hc1 : Chg g (g + 1) w w1 := grown_chg hg1 (fun k hk => by simp only [Option.some.injEq] at hk; omega)
  have HO1 := Lib.hid ho1
  clear ho1 hg1
  go_wp2_with (refine (HC.out _ (Own.ext HO1.out (by repeat (first | (with_reducible exact Ext.refl _) | (with_reducible refine Ext.drewN ?_ _) | (with_reducible refine Ext.drew ?_) | (with_reducible refine Ext.alloc ?_ _) | ((with_reducible refine Ext.setCell ?_ ?_ _); rotate_left; focus (first | (simp; done) | (simp; omega) | omega)) | assumption | (with_reducible refine Ext.trans ?_ (by assumption)))))).mono ?_; rintro e w2 ⟨rfl, ho2, hc2⟩)
  have HO2 := Lib.hid ho2
  have hc3 : Chg g (g + 1) w w2 := hc1.trans ((Chg.ext (by repeat (first | (with_reducible exact Ext.refl _) | (with_reducible refine Ext.drewN ?_ _) | (with_reducible refine Ext.drew ?_) | (with_reducible refine Ext.alloc ?_ _) | ((with_reducible refine Ext.setCell ?_ ?_ _); rotate_left; focus (first | (simp; done) | (simp; omega) | omega)) | assumption | (with_reducible refine Ext.trans ?_ (by assumption)))) _ _).trans hc2)
  clear ho2 hc2
  go_wp2
  go_ret
  have h := HO2.out
  rw [show Lib.compact (sortK l) = ordK l from rfl, HE.out, ← HL.out] at h
  rw [show Lib.compact (sortK l) = ordK l from rfl, ← HL.out]
  exact ⟨rfl, h, hc3⟩
theorem _root_.Go.Proofs.Ytcdoanookiimaaa.ChAt.chgAt {w W : World} {q lo hi : Nat} {D : Ch} {a : Option Addr} {n c : Nat} {b : Option Addr} {m d : Nat} (h : ChAt w q D a n c b m d) (hc : Chg lo hi w W) (hd : q < lo ∨ hi ≤ q) (hI : ChIn W D a n c b m d) : ChAt W q D a n c b m d := by
  have hq : q < w.heap.size := World.block_lt_of_cell? w ⟨q, 0, none⟩ (h.c0 w (Ext.refl _))
  have hq2 : q < W.heap.size := Nat.lt_of_lt_of_le hq hc.size
  have key : ∀ i w', Ext W w' → w'.cell? ⟨q, i, none⟩ = w.cell? ⟨q, i, none⟩ := fun i w' hx => (Below.cell (p := ⟨q, i, none⟩) hx hq2).trans (World.cell?_of_block (hc.block q hq hd))
  exact ⟨fun w' hx => (key 0 w' hx).trans (h.c0 w (Ext.refl _)), fun w' hx => (key 1 w' hx).trans (h.c1 w (Ext.refl _)), fun w' hx => (key 2 w' hx).trans (h.c2 w (Ext.refl _)), fun w' hx => (key 3 w' hx).trans (h.c3 w (Ext.refl _)), fun w' hx => (key 4 w' hx).trans (h.c4 w (Ext.refl _)), fun w' hx => (key 5 w' hx).trans (h.c5 w (Ext.refl _)), hI.ts, hI.ps⟩
set_option maxHeartbeats 2000000 in
theorem impl_checkedOf1 (q : Nat) (C : Ch) (a : Option Addr) (n c : Nat) (b : Option Addr) (m d : Nat) (s : ByteArray) (w : World) (hA : ChAt w q C a n c b m d) (hI : ChIn w C a n c b m d) (hs : s.size ≤ 1048576) :
    Calls Try.prog 143 #[.string s, .pointer (some ⟨q, 0, none⟩)] w (Ret (.bool (!chkB C s)) w) := by
  have HC := Lib.hid (impl_IsChecked C a n c b m d s w hI hs)
  obtain ⟨k0, k1, k2, k3, k4, k5, _, _⟩ := hA
  have hxw : Ext w w := Ext.refl w
  clear hI
  go_enter Try.func143, Try.ntmps143
  go_wp2_with (refine HC.out.mono ?_; rintro e w1 ⟨rfl, hx1⟩)
  go_ret
  exact ⟨rfl, hx1⟩
set_option maxHeartbeats 2000000 in
theorem impl_checkedOf (g p cp : Nat) (C : Ch) (a : Option Addr) (n c : Nat) (b : Option Addr) (m d : Nat) (l : List ByteArray) (w0 w : World) (hI : ChIn w0 C a n c b m d) (ho : Own w w0.heap.size 9 (some ⟨g, 0, none⟩) p cp (St l)) (hx0 : Ext w0 w) (hp : p ≤ 1048576) (hs : ∀ x ∈ l, x.size ≤ 1048576) :
    Calls Try.prog 79 #[.agg #[.int .i64 C.base, .int .i64 C.states, .int .i64 C.start, .int .i64 C.fin, .slice a n c, .slice b m d], .slice (some ⟨g, 0, none⟩) p cp] w (fun e w' => ∃ c', e = .returned (.slice (some ⟨g, 0, none⟩) (putAll (l.filter (chkB C))).length c') ∧ Own w' w0.heap.size 9 (some ⟨g, 0, none⟩) (putAll (l.filter (chkB C))).length c' (St (putAll (l.filter (chkB C)))) ∧ Ext w0 w') := by
  have hl : l.length = p := (St_len l).symm.trans ho.len
  have hgl := ho.lt
  have HB := Lib.hid (hI.box 27)
  have HO := Lib.hid ho
  have HI := Lib.hid hI
  have HOr := Lib.hid (ord_put (l.filter (chkB C)))
  have HSz := Lib.hid (fun k (h : k < p) => hs (gs l k) (gs_mem (by omega)))
  have HFe := Lib.hid (show (l.filter fun x => !(!chkB C x)) = l.filter (chkB C) by simp)
  have HLe := Lib.hid (show (l.filter (chkB C)).length ≤ p by rw [← hl]; exact List.length_filter_le _ _)
  obtain ⟨wb, hwb⟩ : ∃ wb, wb = w.alloc (.cells #[.int .i64 C.base, .int .i64 C.states, .int .i64 C.start, .int .i64 C.fin, .slice a n c, .slice b m d] 27) := ⟨_, rfl⟩
  have hxb : Ext w wb := by rw [hwb]; exact (by repeat (first | (with_reducible exact Ext.refl _) | (with_reducible refine Ext.drewN ?_ _) | (with_reducible refine Ext.drew ?_) | (with_reducible refine Ext.alloc ?_ _) | ((with_reducible refine Ext.setCell ?_ ?_ _); rotate_left; focus (first | (simp; done) | (simp; omega) | omega)) | assumption | (with_reducible refine Ext.trans ?_ (by assumption))))
  have HA := Lib.hid (show ChAt wb w.heap.size C a n c b m d by rw [hwb]; exact (hI.ext hx0).box 27)
  have he : ∀ args w', (callFunc 143 args).run Try.prog w' = .ok (.enter 143 args) w' := fun args w' => by go_simp
  obtain ⟨q, hq⟩ : ∃ q, q = w.heap.size := ⟨_, rfl⟩
  have HQ := Lib.hid hq
  rw [← hq] at HA
  clear hI ho hs
  go_enter Try.func79, Try.ntmps79
  go_wp2_with fail
  rw [← hwb, ← hq]
  clear hwb hq
  have hxq : Ext w0 wb := hx0.trans hxb
  have HD := Lib.hid (deleteFuncT g p cp w0.heap.size l 143 #[.pointer (some ⟨q, 0, none⟩)] (fun x => !chkB C x) wb (HO.out.ext hxb) hp he (fun k hk W hc => by
    have hI2 := HI.out.ext (hc.to hxq hgl.1)
    have hq2 := HQ.out
    exact impl_checkedOf1 q C a n c b m d (gs l k) W (HA.out.chgAt hc (.inr (by omega)) hI2) hI2 (HSz.out k hk)))
  rw [HFe.out] at HD
  refine HD.out.mono ?_
  rintro e w1 ⟨rfl, ho1, hc1⟩
  have hx1 : Ext w0 w1 := hc1.to hxq hgl.1
  have HO1 := Lib.hid ho1
  clear ho1
  have HR := Lib.hid (impl_ordered g (l.filter (chkB C)).length cp w0.heap.size (l.filter (chkB C)) w0 w1 HO1.out (Nat.le_trans HLe.out hp) hx1 (Nat.le_refl _))
  rw [HOr.out] at HR
  go_wp2_with (refine HR.out.mono ?_; rintro e w2 ⟨rfl, ho2, hc2⟩)
  go_ret
  exact ⟨cp, rfl, ho2, hc2.to hx1 hgl.1⟩
end Go.Proofs.Ytcdoanookiimaaa
