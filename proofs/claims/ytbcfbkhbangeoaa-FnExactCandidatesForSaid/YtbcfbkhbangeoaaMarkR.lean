/- Walks: the laws write marks into tables, chains, texts, and look whether they are still there. -/
import Derived.Test.YtbcfbkhbangeoaaToR
import Derived.Test.YtbcfbkhbangeoaaMarkS
import Derived.Test.YtbcfbkhbangeoaaStrs
namespace Go.Proofs.Ytbcfbkhbangeoaa
set_option maxRecDepth 100000
open Go.RowKit

/-- the first j of A, then those of B -/
def mixL {α : Type} (A B : List α) (j : Nat) : List α := A.take j ++ B.drop j
theorem mixL_get {α : Type} {A B : List α} (h : A.length = B.length) (j i : Nat) (d : α) : (mixL A B j).getD i d = if i < j then A.getD i d else B.getD i d := by
  unfold mixL
  simp only [List.getD_eq_getElem?_getD]
  by_cases e : i < j
  · rw [if_pos e]
    by_cases e2 : i < A.length
    · rw [List.getElem?_append_left (by rw [List.length_take]; omega), List.getElem?_take_of_lt e]
    · rw [List.getElem?_append_right (by rw [List.length_take]; omega), List.getElem?_drop, List.getElem?_eq_none (show A.length ≤ i by omega), List.getElem?_eq_none (by rw [List.length_take]; omega)]
  · rw [if_neg e]
    by_cases e2 : j ≤ A.length
    · rw [List.getElem?_append_right (by rw [List.length_take]; omega), List.getElem?_drop, List.length_take, Nat.min_eq_left e2]
      congr 2; omega
    · rw [List.getElem?_append_right (by rw [List.length_take]; omega), List.getElem?_drop, List.length_take, Nat.min_eq_right (by omega), List.getElem?_eq_none (show B.length ≤ i by omega), List.getElem?_eq_none (by omega)]
theorem mixL_zero {α : Type} (A B : List α) : mixL A B 0 = B := rfl
theorem mixL_full {α : Type} {A B : List α} {n : Nat} (h : A.length = B.length) (hn : B.length ≤ n) : mixL A B n = A := by
  unfold mixL; rw [List.take_of_length_le (by omega), List.drop_of_length_le hn, List.append_nil]
theorem mixL_len {α : Type} {A B : List α} (h : A.length = B.length) (j : Nat) : (mixL A B j).length = B.length := by
  unfold mixL; rw [List.length_append, List.length_take, List.length_drop]; omega
def szL (ll : List (List Int)) : Nat := (ll.map List.length).sum
def szLL (l : List (List (List Int))) : Nat := (l.map szL).sum
/-- marks from k on, in the shape of the lists -/
def markLL : Nat → List (List Int) → List (List Int)
  | _, [] => []
  | k, l :: ls => markL k l.length :: markLL (k + l.length) ls
def markLLL : Nat → List (List (List Int)) → List (List (List Int))
  | _, [] => []
  | k, l :: ls => markLL k l :: markLLL (k + szL l) ls
theorem markLL_len : ∀ (k : Nat) (l : List (List Int)), (markLL k l).length = l.length
  | _, [] => rfl
  | k, l :: ls => by simp [markLL, markLL_len]
theorem markLLL_len : ∀ (k : Nat) (l : List (List (List Int))), (markLLL k l).length = l.length
  | _, [] => rfl
  | k, l :: ls => by simp [markLLL, markLLL_len]
theorem markLL_get : ∀ (k : Nat) (l : List (List Int)) (j : Nat), j < l.length → gl (markLL k l) j = markL (k + szL (l.take j)) (gl l j).length
  | _, [], j, h => by simp at h
  | k, l :: ls, 0, _ => by simp [markLL, gl, szL]
  | k, l :: ls, j + 1, h => by
    have := markLL_get (k + l.length) ls j (by simpa using h)
    have e : k + szL ((l :: ls).take (j + 1)) = k + l.length + szL (ls.take j) := by simp [szL]; omega
    rw [e]
    exact this
theorem markLLL_get : ∀ (k : Nat) (l : List (List (List Int))) (j : Nat), j < l.length → gm (markLLL k l) j = markLL (k + szLL (l.take j)) (gm l j)
  | _, [], j, h => by simp at h
  | k, l :: ls, 0, _ => by simp [markLLL, gm, szLL]
  | k, l :: ls, j + 1, h => by
    have := markLLL_get (k + szL l) ls j (by simpa using h)
    have e : k + szLL ((l :: ls).take (j + 1)) = k + szL l + szLL (ls.take j) := by simp [szLL]; omega
    rw [e]
    exact this
theorem szL_mark : ∀ (k : Nat) (l : List (List Int)), szL (markLL k l) = szL l
  | _, [] => rfl
  | k, l :: ls => by have := szL_mark (k + l.length) ls; simp only [szL] at this ⊢; simp [markLL, markL_len, this]
theorem szL_step {l : List (List Int)} {j : Nat} (h : j < l.length) : szL (l.take (j + 1)) = szL (l.take j) + (gl l j).length := sumN_step List.length l [] j h
theorem szLL_step {l : List (List (List Int))} {j : Nat} (h : j < l.length) : szLL (l.take (j + 1)) = szLL (l.take j) + szL (gm l j) := sumN_step szL l [] j h
theorem szL_take (l : List (List Int)) (j : Nat) : szL (l.take j) ≤ szL l := sumN_le List.length l j
theorem szLL_take (l : List (List (List Int))) (j : Nat) : szLL (l.take j) ≤ szLL l := sumN_le szL l j
/-- marked up to k; the blocks from lo to hi apart nothing has changed -/
def MarkR (k lo hi : Nat) (w : World) (T : World → Prop) (e : Ending) (w' : World) : Prop := e = .returned (.int .i64 (k : Int)) ∧ Chg lo hi w w' ∧ T w'
set_option maxHeartbeats 1000000 in
theorem markSSr (a : Option Addr) (n c : Nat) (ll : List (List Int)) (k lo hi : Nat) (w : World) (hv : MatR w lo hi 23 2 a n c ll) (hn : n ≤ 549755813888) (hk : k + szL ll ≤ 549755813888) :
    Calls Try.prog 85 #[.slice a n c, .int .i64 k] w (MarkR (k + szL ll) lo hi w fun w' => MatR w' lo hi 23 2 a n c (markLL k ll)) := by
  obtain ⟨vs, s, t, hl, hrow⟩ := hv
  have HL := Lib.hid hl
  have HR0 := Lib.hid hrow
  have hz := hk
  have hln := markLL_len k ll
  have Hhln := Lib.hid hln; clear hln
  clear hl hrow
  go_enter Try.func85, Try.ntmps85
  go_wp2
  go_loopw [1, 5] (fun x i wr => ∃ (j m : Nat), j ≤ n ∧ i = .int .i64 j ∧ x = .int .i64 ((k : Int) + m) ∧ Hid (m = szL (ll.take j)) ∧ Chg lo hi w wr ∧ Row wr lo hi 23 a n c vs n s t (RI 2 (mixL (markLL k ll) ll j))) (fun _ i _ => n - (intOf i).toNat)
  case atStart => exact ⟨0, 0, Nat.zero_le _, rfl, by simp, Lib.hid rfl, Chg.refl _ _ _, HR0.out⟩
  case round =>
    obtain ⟨j, m, hj, rfl, rfl, HM, hc, hr⟩ := hrel
    have HC := Lib.hid hc
    have HR := Lib.hid hr
    clear hc hr
    have hm : m ≤ 549755813888 - k := by have := szL_take ll j; rw [HM.out]; omega
    by_cases hlt : j < n
    · have hjl : j < ll.length := by rw [HL.out]; exact hlt
      obtain ⟨b, off, f1, f2⟩ := HR.out.own.sl.one (P := Try.prog) 81 23 und_rows cell_row1 (j : Int) (by omega) (by omega)
      rw [show (j : Int).toNat = j by omega] at f2
      obtain ⟨s1, s2, s3, a2, n2, c2, hgv, hin⟩ := HR.out.el j hlt
      rw [hgv] at f2
      have hge : gl (mixL (markLL k ll) ll j) j = gl ll j := by
        have := mixL_get (A := markLL k ll) (B := ll) Hhln.out j j []
        rw [if_neg (by omega)] at this
        exact this
      rw [hge] at hin
      have HS := Lib.hid (szL_step hjl)
      have hln2 : (gl ll j).length = n2 := by have := hin.1.len; rwa [I_len] at this
      have HLn := Lib.hid hln2
      have hn2 : m + n2 ≤ 549755813888 - k := by have h1 := szL_take ll (j + 1); have h2 := HS.out; have h3 := HM.out; omega
      have HB := Lib.hid (show (∀ g, a2 = Option.some g → g.block < t j) ∧ (∀ g, a2 = Option.some g → s j ≤ g.block) from ⟨hin.2, fun g hg => (hin.1.blk g hg).1⟩)
      have HCall := Lib.hid (markInts a2 n2 c2 (gl ll j) (k + m) (s j) wr hin.1 (by omega) (by omega))
      rw [show (((k + m : Nat)) : Int) = (k : Int) + m by omega] at HCall
      have HGv := Lib.hid hgv
      have HGet := Lib.hid (markLL_get k ll j hjl)
      clear hgv hge hin s1 s2 s3 hjl
      go_wp2_with fail
      refine HCall.out.mono ?_
      rintro e w2 ⟨rfl, hm2, ho2⟩
      have hc2 : Chg (s j) (t j) wr w2 := hm2.chg (Nat.le_refl _) HB.out.1 HB.out.2
      have hnew : RI 2 (mixL (markLL k ll) ll (j + 1)) j (gv vs j) w2 (s j) (t j) := by
        refine ⟨a2, n2, c2, HGv.out, ?_, HB.out.1⟩
        have e2 := mixL_get (A := markLL k ll) (B := ll) Hhln.out (j + 1) j []
        rw [if_pos (by omega)] at e2
        have e3 : gl (mixL (markLL k ll) ll (j + 1)) j = markL (k + m) n2 := by
          unfold gl
          rw [e2, HM.out, ← HLn.out]
          exact HGet.out
        rw [e3]
        exact ho2
      rw [show ((((k + m) + n2 : Nat)) : Int) = (k : Int) + m + n2 by omega]
      clear hm2 ho2
      clear f1 f2
      go_wp2
      refine ⟨⟨j + 1, m + n2, by omega, by go_num, by go_num, by show _ = _; rw [HM.out, HS.out]; have := HLn.out; omega, HC.out.trans (hc2.mono (HR.out.el j hlt).1 (HR.out.el j hlt).2.2.1), HR.out.at (RI.keeps _ _) hlt hc2 hnew (fun i v W l u hne h => ?_)⟩, by simp [intOf]; omega⟩
      obtain ⟨a3, n3, c3, h3, h4⟩ := h
      refine ⟨a3, n3, c3, h3, ?_⟩
      have e1 := mixL_get (A := markLL k ll) (B := ll) Hhln.out j i []
      have e2 := mixL_get (A := markLL k ll) (B := ll) Hhln.out (j + 1) i []
      have e3 : gl (mixL (markLL k ll) ll (j + 1)) i = gl (mixL (markLL k ll) ll j) i := by
        unfold gl
        rw [e1, e2]
        by_cases e : i < j
        · rw [if_pos e, if_pos (by omega)]
        · rw [if_neg e, if_neg (by omega)]
      rw [e3]
      exact h4
    · obtain rfl : j = n := by omega
      go_wp2
      go_ret
      have hfull : m = szL ll := by rw [HM.out, take_full (by rw [HL.out]; exact Nat.le_refl _)]
      refine ⟨ri (by omega), HC.out, vs, s, t, (Hhln.out).trans HL.out, ?_⟩
      have := HR.out
      rw [mixL_full Hhln.out (by rw [HL.out]; exact Nat.le_refl _)] at this
      exact this
set_option maxHeartbeats 1000000 in
theorem markSSSr (a : Option Addr) (n c : Nat) (ll : List (List (List Int))) (k lo hi : Nat) (w : World) (hv : CubeR w lo hi 81 23 2 a n c ll) (hn : n ≤ 549755813888) (hk : k + szLL ll ≤ 549755813888) (hsm : ∀ t ∈ ll, t.length ≤ 1048576) :
    Calls Try.prog 46 #[.slice a n c, .int .i64 k] w (MarkR (k + szLL ll) lo hi w fun w' => CubeR w' lo hi 81 23 2 a n c (markLLL k ll)) := by
  obtain ⟨vs, s, t, hl, hrow⟩ := hv
  have HL := Lib.hid hl
  have HR0 := Lib.hid hrow
  have hz := hk
  have hln := markLLL_len k ll
  have Hhln := Lib.hid hln; clear hln
  clear hl hrow
  go_enter Try.func46, Try.ntmps46
  go_wp2
  go_loopw [1, 5] (fun x i wr => ∃ (j m : Nat), j ≤ n ∧ i = .int .i64 j ∧ x = .int .i64 ((k : Int) + m) ∧ Hid (m = szLL (ll.take j)) ∧ Chg lo hi w wr ∧ Row wr lo hi 81 a n c vs n s t (RM 23 2 (mixL (markLLL k ll) ll j))) (fun _ i _ => n - (intOf i).toNat)
  case atStart => exact ⟨0, 0, Nat.zero_le _, rfl, by simp, Lib.hid rfl, Chg.refl _ _ _, HR0.out⟩
  case round =>
    obtain ⟨j, m, hj, rfl, rfl, HM, hc, hr⟩ := hrel
    have HC := Lib.hid hc
    have HR := Lib.hid hr
    clear hc hr
    have hm : m ≤ 549755813888 - k := by have := szLL_take ll j; rw [HM.out]; omega
    by_cases hlt : j < n
    · have hjl : j < ll.length := by rw [HL.out]; exact hlt
      obtain ⟨b, off, f1, f2⟩ := HR.out.own.sl.one (P := Try.prog) 22 81 und_tabs cell_tab1 (j : Int) (by omega) (by omega)
      rw [show (j : Int).toNat = j by omega] at f2
      obtain ⟨s1, s2, s3, a2, n2, c2, hgv, hin⟩ := HR.out.el j hlt
      rw [hgv] at f2
      have hge : gm (mixL (markLLL k ll) ll j) j = gm ll j := by
        have := mixL_get (A := markLLL k ll) (B := ll) Hhln.out j j []
        rw [if_neg (by omega)] at this
        exact this
      rw [hge] at hin
      have HS := Lib.hid (szLL_step hjl)
      have hn2 : m + szL (gm ll j) ≤ 549755813888 - k := by have h1 := szLL_take ll (j + 1); have h2 := HS.out; have h3 := HM.out; omega
      obtain ⟨hb, hbl⟩ : n2 ≤ 549755813888 ∧ True := ⟨by have := hsm _ (gm_mem hjl); obtain ⟨_, _, _, h5, _⟩ := hin; omega, trivial⟩
      have HCall := Lib.hid (markSSr a2 n2 c2 (gm ll j) (k + m) (s j) (t j) wr hin hb (by omega))
      rw [show (((k + m : Nat)) : Int) = (k : Int) + m by omega] at HCall
      have HGv := Lib.hid hgv
      have HGet := Lib.hid (markLLL_get k ll j hjl)
      clear hgv hge hin s1 s2 s3 hjl
      go_wp2_with fail
      refine HCall.out.mono ?_
      rintro e w2 ⟨rfl, hc2, ho2⟩
      have hnew : RM 23 2 (mixL (markLLL k ll) ll (j + 1)) j (gv vs j) w2 (s j) (t j) := by
        refine ⟨a2, n2, c2, HGv.out, ?_⟩
        have e2 := mixL_get (A := markLLL k ll) (B := ll) Hhln.out (j + 1) j []
        rw [if_pos (by omega)] at e2
        have e3 : gm (mixL (markLLL k ll) ll (j + 1)) j = markLL (k + m) (gm ll j) := by
          unfold gm
          rw [e2, HM.out]
          exact HGet.out
        rw [e3]
        exact ho2
      rw [show ((((k + m) + szL (gm ll j) : Nat)) : Int) = (k : Int) + m + szL (gm ll j) by omega]
      clear ho2
      clear f1 f2
      go_wp2
      refine ⟨⟨j + 1, m + szL (gm ll j), by omega, by go_num, by go_num, by show _ = _; rw [HM.out, HS.out], HC.out.trans (hc2.mono (HR.out.el j hlt).1 (HR.out.el j hlt).2.2.1), HR.out.at (RM.keeps _ _ _) hlt hc2 hnew (fun i v W l u hne h => ?_)⟩, by simp [intOf]; omega⟩
      obtain ⟨a3, n3, c3, h3, h4⟩ := h
      refine ⟨a3, n3, c3, h3, ?_⟩
      have e1 := mixL_get (A := markLLL k ll) (B := ll) Hhln.out j i []
      have e2 := mixL_get (A := markLLL k ll) (B := ll) Hhln.out (j + 1) i []
      have e3 : gm (mixL (markLLL k ll) ll (j + 1)) i = gm (mixL (markLLL k ll) ll j) i := by
        unfold gm
        rw [e1, e2]
        by_cases e : i < j
        · rw [if_pos e, if_pos (by omega)]
        · rw [if_neg e, if_neg (by omega)]
      rw [e3]
      exact h4
    · obtain rfl : j = n := by omega
      go_wp2
      go_ret
      have hfull : m = szLL ll := by rw [HM.out, take_full (by rw [HL.out]; exact Nat.le_refl _)]
      refine ⟨ri (by omega), HC.out, vs, s, t, (Hhln.out).trans HL.out, ?_⟩
      have := HR.out
      rw [mixL_full Hhln.out (by rw [HL.out]; exact Nat.le_refl _)] at this
      exact this
theorem Chg.cell {lo hi : Nat} {w w' : World} (h : Chg lo hi w w') {p : Addr} (hp : p.block < w.heap.size) (hd : p.block < lo ∨ hi ≤ p.block) : w'.cell? p = w.cell? p :=
  World.cell?_of_block (h.block _ hp hd)
/-! ### texts -/
def mtD : Nat → Nat → ByteArray → ByteArray
  | 0, _, s => s
  | f + 1, k, s => if k = 0 then s else mtD f (k / 10) (strOfNums [48 + (k : Int) % 10] ++ s)
theorem mtD_fuel : ∀ (f k : Nat) (s : ByteArray), k ≤ f → mtD f k s = mtD k k s := by
  intro f
  induction f using Nat.strongRecOn with
  | _ f ih =>
    intro k s hk
    cases f with
    | zero => obtain rfl : k = 0 := by omega
              rfl
    | succ f =>
      cases k with
      | zero => simp [mtD]
      | succ k =>
        rw [mtD, mtD, if_neg (by omega), if_neg (by omega), ih f (by omega) _ _ (by omega), ih k (by omega) _ _ (by omega)]
/-- the k-th mark among texts -/
def markT (k : Nat) : ByteArray := if k = 0 then ⟨#[109, 48]⟩ else ⟨#[109]⟩ ++ mtD k k .empty
theorem mtD_step {j : Nat} (h : 0 < j) (s : ByteArray) : mtD j j s = mtD (j / 10) (j / 10) (strOfNums [48 + (j : Int) % 10] ++ s) := by
  obtain ⟨i, rfl⟩ : ∃ i, j = i + 1 := ⟨j - 1, by omega⟩
  rw [mtD, if_neg (by omega), mtD_fuel i _ _ (by omega)]
set_option maxHeartbeats 1000000 in
theorem markTextX (k : Nat) (w : World) (hk : k ≤ 1099511627776) : Calls Try.prog 48 #[.int .i64 k] w (Ret (.string (markT k)) w) := by
  by_cases h0 : 0 < k
  · have HT := Lib.hid (show markT k = ⟨#[109]⟩ ++ mtD k k .empty by rw [markT, if_neg (by omega)])
    go_enter Try.func48, Try.ntmps48
    go_wp2
    go_loopw [0, 3] (fun x v wr => ∃ (j : Nat) (s : ByteArray), j + s.size ≤ k ∧ x = .int .i64 j ∧ v = .string s ∧ Hid (mtD k k .empty = mtD j j s) ∧ Ext w wr) (fun x _ _ => (intOf x).toNat)
    case atStart => exact ⟨k, .empty, by show k + 0 ≤ k; omega, rfl, rfl, Lib.hid rfl, Ext.refl _⟩
    case round =>
      obtain ⟨j, s, hj, rfl, rfl, HM, hx⟩ := hrel
      by_cases hlt : 0 < j
      · have hcv : (convert 37 9 (.slice (some ⟨wr.heap.size, 0, none⟩) 1 1)).run Try.prog (wr.alloc (.cells #[.int .u8 (48 + (j : Int) % 10)] 5)) = .ok (.string (strOfNums [48 + (j : Int) % 10])) (wr.alloc (.cells #[.int .u8 (48 + (j : Int) % 10)] 5)) :=
          run_convert_bytes_arg _ 37 5 (by kernel_rfl) (by kernel_rfl) wr.heap.size 0 1 1 [48 + (j : Int) % 10] rfl (fun i hi => by
            obtain rfl : i = 0 := by omega
            exact cell_of_row _ _ 0 _ _ (0, 0) (heap_alloc_new wr _)) 9 (by kernel_rfl)
        have HSt := Lib.hid (HM.out.trans (mtD_step hlt s))
        obtain ⟨z, hz⟩ : ∃ z, z = strOfNums [48 + (j : Int) % 10] := ⟨_, rfl⟩
        rw [← hz] at hcv HSt
        have hz1 : z.size = 1 := by rw [hz]; rfl
        have hza : (z ++ s).size = 1 + s.size := by rw [ByteArray.size_append, hz1]
        clear hz
        go_wp2
        refine ⟨⟨j / 10, z ++ s, by rw [hza]; omega, by go_num, rfl, HSt, (by repeat (first | (with_reducible exact Ext.refl _) | (with_reducible refine Ext.drewN ?_ _) | (with_reducible refine Ext.drew ?_) | (with_reducible refine Ext.alloc ?_ _) | ((with_reducible refine Ext.setCell ?_ ?_ _); rotate_left; focus (first | (simp; done) | (simp; omega) | omega)) | assumption | (with_reducible refine Ext.trans ?_ (by assumption))))⟩, by simp [intOf]; omega⟩
      · obtain rfl : j = 0 := by omega
        go_wp2
        go_ret
        exact ⟨by rw [HT.out, HM.out]; rfl, (by repeat (first | (with_reducible exact Ext.refl _) | (with_reducible refine Ext.drewN ?_ _) | (with_reducible refine Ext.drew ?_) | (with_reducible refine Ext.alloc ?_ _) | ((with_reducible refine Ext.setCell ?_ ?_ _); rotate_left; focus (first | (simp; done) | (simp; omega) | omega)) | assumption | (with_reducible refine Ext.trans ?_ (by assumption))))⟩
  · obtain rfl : k = 0 := by omega
    have HT := Lib.hid (show markT 0 = ⟨#[109, 48]⟩ from rfl)
    go_enter Try.func48, Try.ntmps48
    go_wp2
    go_ret
    exact ⟨by rw [HT.out]; rfl, (by repeat (first | (with_reducible exact Ext.refl _) | (with_reducible refine Ext.drewN ?_ _) | (with_reducible refine Ext.drew ?_) | (with_reducible refine Ext.alloc ?_ _) | ((with_reducible refine Ext.setCell ?_ ?_ _); rotate_left; focus (first | (simp; done) | (simp; omega) | omega)) | assumption | (with_reducible refine Ext.trans ?_ (by assumption))))⟩
def markTs (k n : Nat) : List ByteArray := (List.range n).map fun i => markT (k + i)
theorem markTs_len (k n : Nat) : (markTs k n).length = n := by simp [markTs]
theorem markTs_gs {k n i : Nat} (h : i < n) : gs (markTs k n) i = markT (k + i) := by simp [gs, markTs, h]
theorem markTs_step (k i : Nat) (l : List Value) (h : i < l.length) : (St (markTs k i) ++ l.drop i).set i (.string (markT (k + i))) = St (markTs k (i + 1)) ++ l.drop (i + 1) := by
  rw [List.set_append_right _ _ (by rw [St_len, markTs_len]; exact Nat.le_refl _), St_len, markTs_len, Nat.sub_self, List.drop_eq_getElem_cons h, List.set_cons_zero]
  simp only [markTs, St, List.range_succ, List.map_append, List.map_cons, List.map_nil, List.append_assoc, List.cons_append, List.nil_append]
/-! ### chains -/
def szCh2 (D : Ch) : Nat := szLL D.tabs + D.places.length
def markC (k : Nat) (D : Ch) : Ch := { D with tabs := markLLL k D.tabs, places := markL (k + szLL D.tabs) D.places.length }
set_option maxHeartbeats 1000000 in
theorem markChR (D : Ch) (a : Option Addr) (n c : Nat) (b : Option Addr) (m d : Nat) (k lo hi : Nat) (w : World) (hv : ChR w lo hi D a n c b m d) (hhi : hi ≤ w.heap.size) (hn : n ≤ 1048576) (hk : k + szCh2 D ≤ 549755813888) (hsm : ∀ t ∈ D.tabs, t.length ≤ 1048576) :
    Calls Try.prog 11 #[.agg #[.int .i64 D.base, .int .i64 D.states, .int .i64 D.start, .int .i64 D.fin, .slice a n c, .slice b m d], .int .i64 k] w (MarkR (k + szCh2 D) lo hi w fun w' => ChR w' lo hi (markC k D) a n c b m d) := by
  obtain ⟨h1, g1, g2, hcu, hpl⟩ := hv
  have hlp : D.places.length = m := by have := hpl.1.len; rwa [I_len] at this
  have HCU := Lib.hid (fun W (hx : Ext w W) => markSSSr a n c D.tabs k lo h1 W (hcu.ext hx) (by omega) (by unfold szCh2 at hk; omega) hsm)
  have HPL := Lib.hid (fun W (hc : Chg lo h1 w W) => markInts b m d D.places (k + szLL D.tabs) h1 W (hpl.chg hc (.inl (Nat.le_refl _))).1 (by unfold szCh2 at hk; omega) (by unfold szCh2 at hk; omega))
  have HTop := Lib.hid hpl
  have HSz := Lib.hid (show szCh2 D = szLL D.tabs + m by rw [szCh2, hlp])
  have hzz : k + szLL D.tabs + m ≤ 549755813888 := by unfold szCh2 at hk; omega
  have hbx : (w.alloc (.cells #[.int .i64 D.base, .int .i64 D.states, .int .i64 D.start, .int .i64 D.fin, .slice a n c, .slice b m d] 30)).cell? ⟨w.heap.size, 5, none⟩ = some (.slice b m d) := by go_simp
  have HBx := Lib.hid hbx
  have Hhlp := Lib.hid hlp; clear hlp
  clear hcu hpl hbx hsm
  go_enter Try.func11, Try.ntmps11
  go_wp2_with fail
  refine (HCU.out _ ((Ext.refl w).alloc _)).mono ?_
  rintro e w2 ⟨rfl, hc2, hq2⟩
  have hcell : w2.cell? ⟨w.heap.size, 5, none⟩ = some (.slice b m d) := (hc2.cell (by simp) (.inr (by show h1 ≤ w.heap.size; omega))).trans HBx.out
  have hcw : Chg lo h1 w w2 := (Chg.ext ((Ext.refl w).alloc _) lo h1).trans hc2
  have HP2 := Lib.hid (HPL.out w2 hcw)
  have HQ2 := Lib.hid hq2
  have HC2 := Lib.hid hcw
  rw [show (((k + szLL D.tabs : Nat)) : Int) = (k : Int) + szLL D.tabs by omega] at HP2 ⊢
  clear hc2 hq2 hcw HCU HPL
  go_wp2_with fail
  refine HP2.out.mono ?_
  rintro e w3 ⟨rfl, hm3, ho3⟩
  go_wp2
  go_ret
  have hc3 : Chg h1 hi w2 w3 := hm3.chg (Nat.le_refl _) HTop.out.2 (fun g hg => (HTop.out.1.blk g hg).1)
  exact ⟨ri (by rw [HSz.out]; omega), (HC2.out.mono (Nat.le_refl _) g2).trans (hc3.mono g1 (Nat.le_refl _)), h1, g1, g2, HQ2.out.chg hc3 (.inr (Nat.le_refl _)), by show Own w3 h1 _ b m d (I (markL _ D.places.length)); rw [Hhlp.out]; exact ho3, HTop.out.2⟩
end Go.Proofs.Ytbcfbkhbangeoaa
