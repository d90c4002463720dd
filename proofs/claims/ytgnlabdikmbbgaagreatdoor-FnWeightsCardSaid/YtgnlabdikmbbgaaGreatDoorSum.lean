/- Walks: the sum of a weighting. -/
import Derived.Test.YtgnlabdikmbbgaaGreatDoorWt
namespace Go.Proofs.YtgnlabdikmbbgaaGreatDoor
set_option maxRecDepth 100000
open Go.RowKit

def okWord (W : Wt) (s : List UInt8) : Bool := wordB s W.base 20 && decide ((s.length : Int) = W.weights.length)

/-- the sum of products, place by place -/
def dot : List Int → List Int → Int
  | x :: xs, y :: ys => x * y + dot xs ys
  | _, _ => 0
theorem dot_take (ws ds : List Int) : ∀ k, k < ws.length → k < ds.length → dot (ws.take (k + 1)) (ds.take (k + 1)) = dot (ws.take k) (ds.take k) + ws.getD k 0 * ds.getD k 0 := by
  induction ws generalizing ds with
  | nil => intro k h; simp at h
  | cons x xs ih =>
    cases ds with
    | nil => intro k _ h; simp at h
    | cons y ys =>
      intro k h1 h2
      cases k with
      | zero => simp [dot]
      | succ k =>
        have := ih ys k (by simpa using h1) (by simpa using h2)
        simp only [List.take_succ_cons, dot, List.getD_cons_succ]
        rw [this]; omega
theorem mul_bd {x y a b : Int} (h1 : 0 ≤ x) (h2 : x ≤ a) (h3 : 0 ≤ y) (h4 : y ≤ b) : 0 ≤ x * y ∧ x * y ≤ a * b :=
  ⟨Int.mul_nonneg h1 h3, Int.mul_le_mul h2 h4 h3 (by omega)⟩
/-- numbers from 0 to 36 -/
def Small (l : List Int) : Prop := ∀ x ∈ l, 0 ≤ x ∧ x ≤ 36
theorem Small.at {l : List Int} (h : Small l) (k : Nat) (hk : k < l.length) : 0 ≤ l.getD k 0 ∧ l.getD k 0 ≤ 36 := h _ (getD_mem l 0 k hk)
theorem Small.take {l : List Int} (h : Small l) (k : Nat) : Small (l.take k) := fun x hx => h x (List.mem_of_mem_take hx)
theorem dot_bd {ws ds : List Int} (hw : Small ws) (hd : Small ds) : 0 ≤ dot ws ds ∧ dot ws ds ≤ 1296 * ds.length := by
  induction ws generalizing ds with
  | nil => simp [dot]; omega
  | cons x xs ih =>
    cases ds with
    | nil => simp [dot]
    | cons y ys =>
      have h1 := hw x (by simp)
      have h2 := hd y (by simp)
      have h3 := mul_bd h1.1 h1.2 h2.1 h2.2
      have h4 := ih (fun z hz => hw z (by simp [hz])) (fun z hz => hd z (by simp [hz])) (ds := ys)
      simp only [dot, List.length_cons]
      omega

theorem belowB_small {l : List Int} {m : Int} (h : belowB l m = true) (hm : m ≤ 37) : Small l := fun x hx => by
  unfold belowB at h
  rw [List.all_eq_true] at h
  have := inB_t.1 (h x hx)
  omega
theorem wordB_small {s : List UInt8} {b most : Int} (h : wordB s b most = true) : Small (digs s) := fun x hx => by
  unfold wordB at h
  simp only [Bool.and_eq_true, List.all_eq_true] at h
  obtain ⟨c, hc, rfl⟩ := List.mem_map.1 hx
  have h1 := inB_t.1 (h.1 c hc)
  have h2 := dig_bd c
  omega
theorem digs_len (s : List UInt8) : (digs s).length = s.length := by simp [digs]


theorem dot_comm (xs ys : List Int) : dot xs ys = dot ys xs := by
  induction xs generalizing ys with
  | nil => cases ys <;> rfl
  | cons x xs ih => cases ys with
    | nil => rfl
    | cons y ys => simp only [dot]; rw [ih, Int.mul_comm]

set_option maxHeartbeats 1000000 in
theorem impl_sum (b : Nat) (W : Wt) (a a' : Option Addr) (n c c' : Nat) (ds : List Int) (w : World) (h : IsWt w b W a n c) (hd : Ints w a' n c' ds) (hn : n ≤ 20) (hs : Small W.weights) (hs' : Small ds) (hm : 2 ≤ W.modulus) :
    Calls Tryz.prog 38 #[.pointer (some ⟨b, 0, none⟩), .slice a' n c'] w (Same (.int .i64 (dot W.weights ds % W.modulus)) w) := by
  obtain ⟨base, modulus, target, l⟩ := W
  obtain ⟨c0, c1, c2, c3, hw⟩ := h
  simp only at c0 c1 c2 c3 hw hs hm
  have HL := Lib.hid hw.len
  have HL' := Lib.hid hd.len
  have HW := Lib.hid hw
  have HD := Lib.hid hd
  clear hw hd
  go_enter Tryz.func38, Tryz.ntmps38
  go_wp2
  go_loop [5, 6, 7, 10] (fun v _ _ i => ∃ (k : Nat) (x : Int), k ≤ n ∧ i = .int .i64 k ∧ v = .int .i64 x ∧ Hid (x = dot (ds.take k) (l.take k))) (fun _ _ _ i => n - (intOf i).toNat)
  case atStart => exact ⟨0, 0, Nat.zero_le _, rfl, rfl, rfl⟩
  case round =>
    obtain ⟨k, x, hk, rfl, rfl, HX⟩ := hrel
    have hb := dot_bd (hs'.take k) (hs.take k)
    rw [← HX.out, List.length_take] at hb
    by_cases hlt : k < n
    · obtain ⟨b1, off1, hia1, hcell1⟩ := HW.out.at 24 2 und_int64s cell_int64 k hlt .i64
      obtain ⟨b2, off2, hia2, hcell2⟩ := HD.out.at 24 2 und_int64s cell_int64 k hlt .i64
      have hy := hs.at k (by rw [HL.out]; exact hlt)
      have hz := hs'.at k (by rw [HL'.out]; exact hlt)
      have HT := Lib.hid (dot_take ds l k (by rw [HL'.out]; exact hlt) (by rw [HL.out]; exact hlt))
      rw [← HX.out] at HT
      generalize l.getD k 0 = y at *
      generalize ds.getD k 0 = z at *
      have hyz := mul_bd hz.1 hz.2 hy.1 hy.2
      go_wp2
      exact ⟨⟨k + 1, _, by omega, by go_num, rfl, HT.out.symm⟩, by simp [intOf]; omega⟩
    · go_wp2
      go_ret
      refine ⟨ri ?_, rfl⟩
      rw [HX.out, take_full (by rw [HL'.out]; omega), take_full (by rw [HL.out]; omega), dot_comm]

theorem okWord_no {W : Wt} {s : List UInt8} (h : wordB s W.base 20 = false) : okWord W s = false := by simp [okWord, h]
theorem okWord_yes {W : Wt} {s : List UInt8} (h : wordB s W.base 20 = true) : okWord W s = decide ((s.length : Int) = W.weights.length) := by simp [okWord, h]

set_option maxHeartbeats 1000000 in
theorem impl_wword (b : Nat) (W : Wt) (a : Option Addr) (n c : Nat) (s : ByteArray) (w : World) (h : IsWt w b W a n c) (hs : s.size ≤ 4611686018427387904) :
    Calls Tryz.prog 37 #[.pointer (some ⟨b, 0, none⟩), .string s] w (RetIf 2 (okWord W s.data.toList) (I (digs s.data.toList)) w) := by
  have h' := Lib.hid h
  obtain ⟨base, modulus, target, l⟩ := W
  obtain ⟨c0, c1, c2, c3, hw⟩ := h
  simp only at c0 c1 c2 c3 hw
  have HL := Lib.hid hw.len
  clear hw
  have HC := Lib.hid (impl_DigitsOf s base w hs)
  cases hb : wordB s.data.toList base 20
  · rw [hb] at HC
    have HN := Lib.hid (okWord_no (W := ⟨base, modulus, target, l⟩) hb)
    clear hb
    go_enter Tryz.func37, Tryz.ntmps37
    go_wp2_with (refine HC.out.mono ?_; rintro e w' ⟨a1, n1, x1, rfl, hx, ho⟩)
    have hc0 := hx.cell c0
    have hc3 := hx.cell c3
    clear ho
    go_wp2
    go_quiet (fail)
    go_wp2
    go_ret2
    exact RetIf.mk HN.out (hx.drewN _) (fun h => by rw [HN.out] at h; cases h)
  · rw [hb] at HC
    have HN := Lib.hid (okWord_yes (W := ⟨base, modulus, target, l⟩) hb)
    clear hb
    go_enter Tryz.func37, Tryz.ntmps37
    go_wp2_with (refine HC.out.mono ?_; rintro e w' ⟨a1, n1, x1, rfl, hx, ho⟩)
    have hc0 := hx.cell c0
    have hc3 := hx.cell c3
    have HO := Lib.hid (ho (by simp))
    clear ho
    go_wp2
    go_quiet (fail)
    go_wp2
    go_ret2
    have hn : s.data.toList.length = n1 := by have := HO.out.len; rwa [I_len, digs_len] at this
    exact RetIf.mk (by rw [HN.out, hn, HL.out]; exact Bool.eq_iff_iff.2 (by simp)) (hx.drewN _) (fun _ => HO.out.ext ((Ext.refl _).drewN _))
end Go.Proofs.YtgnlabdikmbbgaaGreatDoor
