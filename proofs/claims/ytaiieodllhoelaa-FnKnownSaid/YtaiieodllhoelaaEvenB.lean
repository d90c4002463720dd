/- Words for the chain with one table. -/
import Derived.Test.YtaiieodllhoelaaChW
import Derived.Test.YtaiieodllhoelaaSAt
import Derived.Deep.RegionHeld3
import Derived.Deep.CutRange
namespace Go.Proofs.Ytaiieodllhoelaa
set_option maxRecDepth 100000
open Go.RowKit

theorem Chg.allocQ {lo hi : Nat} {a b : World} (h : Chg lo hi a b) (o : Obj) : Chg lo hi a (b.alloc o) := h.trans (Chg.ext ((Ext.refl _).alloc o) _ _)
theorem Chg.drewQ {lo hi : Nat} {a b : World} (h : Chg lo hi a b) : Chg lo hi a b.drew := h.trans (Chg.ext (Ext.drew (Ext.refl _)) _ _)
theorem Chg.setQ {lo hi : Nat} {a b : World} (h : Chg lo hi a b) (p : Addr) (u : Value) (hl : lo ≤ p.block) (hh : p.block < hi) : Chg lo hi a (b.setCell p u) := h.trans (Chg.setP _ _ _ hl hh)
/-- all rows as long -/
def TabOkE (b : Int) (t : List (List Int)) : Prop := ∀ r ∈ t, (r.length : Int) = b
/-- a copy of a table -/
def RetTabI (ll : List (List Int)) (w : World) (e : Ending) (w' : World) : Prop := ∃ a c, e = .returned (.slice a ll.length c) ∧ OwnMat w' w.heap.size 25 2 a ll.length c ll ∧ Ext w w'
set_option maxHeartbeats 1000000 in
theorem impl_cloneTab (a : Option Addr) (n c : Nat) (ll : List (List Int)) (w : World) (hv : Mat w a n c ll) (hn : n ≤ 1048576) (hsm : ∀ r ∈ ll, r.length ≤ 4194304) :
    Calls Try.prog 81 #[.slice a n c] w (RetTabI ll w) := by
  have HV := Lib.hid hv
  have HL := Lib.hid hv.len
  have Hhsm := Lib.hid hsm; clear hsm
  clear hv
  go_enter Try.func81, Try.ntmps81
  go_wp2_with fail
  go_loopw [3, 5, 9] (fun o _ i wr => ∃ (k : Nat) (ad : Option Addr) (cc : Nat), k ≤ n ∧ i = .int .i64 k ∧ o = .slice ad k cc ∧ Hid (OwnMat wr w.heap.size 25 2 ad k cc (ll.take k)) ∧ Ext w wr) (fun _ _ i _ => n - (intOf i).toNat)
  case atStart => exact ⟨0, _, _, Nat.zero_le _, rfl, rfl, OwnMat.lit0 w _ _, (by repeat (first | (with_reducible exact Ext.refl _) | (with_reducible refine Ext.drewN ?_ _) | (with_reducible refine Ext.drew ?_) | (with_reducible refine Ext.alloc ?_ _) | ((with_reducible refine Ext.setCell ?_ ?_ _); rotate_left; focus (first | (simp; done) | (simp; omega) | omega)) | assumption | (with_reducible refine Ext.trans ?_ (by assumption))))⟩
  case round =>
    obtain ⟨k, ad, cc, hk, rfl, rfl, HM, hx⟩ := hrel
    have hxr : Ext w wr := hx
    by_cases hlt : k < n
    · obtain ⟨b, off, a2, n2, c2, ⟨f1, f2⟩, hi2⟩ := HV.out.one (P := Try.prog) 43 25 und_rows cell_row1 (k : Int) (by omega) (by omega)
      rw [show (k : Int).toNat = k by omega] at hi2
      have HL2 := Lib.hid hi2.len
      have HC := Lib.hid (clone_ints a2 n2 c2 (gl ll k) wr (hi2.ext hx) (by rw [← HL2.out]; have := Hhsm.out _ (gl_mem (l := ll) (k := k) (by rw [HL.out]; exact hlt)); omega))
      clear hi2
      go_wp2_with fail
      refine HC.out.mono ?_
      rintro e w5 ⟨a5, c5, rfl, ho5, hx5, _⟩
      rw [I_len, HL2.out] at ho5 ⊢
      have hxw5 : Ext w w5 := hxr.trans hx5
      have HO5 := Lib.hid (ho5.mono hxr.le)
      have HM5 := Lib.hid (HM.out.ext hx5)
      obtain ⟨vs, hvs, hps⟩ := HM5.out.rows
      have HV5 := Lib.hid hvs
      have HPS := Lib.hid hps
      clear hvs hps ho5
      go_wp2_with (at_builtin; refine law_append1 _ rfl _ _ 43 rfl 25 (.slice none 0 0) 24 und_rows info_row1 rfl w.heap.size ad k cc vs _ rfl rfl rfl HV5.out hxw5.le (by omega) (by omega) ?_; intro ad' c' w6 ho6 hb6 hg6; have hxw6 : Ext w w6 := Ext.below hxw5 hb6)
      exact ⟨⟨k + 1, ad', c', by omega, by go_num, rfl, by rw [Hid, take_snoc ll [] k (by rw [HL.out]; exact hlt)]; exact OwnMat.push HM5.out.len HPS.out HV5.out HO5.out ho6 hg6 (by decide), hxw6⟩, by simp [intOf]; omega⟩
    · obtain rfl : k = n := by omega
      go_wp2
      go_ret
      have h1 := HM.out
      rw [take_full (by rw [HL.out]; exact Nat.le_refl _)] at h1
      exact ⟨ad, cc, by rw [HL.out]; rfl, by rw [HL.out]; exact h1, hx⟩
/-- make([]int64, n): what it lays -/
theorem made_ints (n : Nat) (hn : n ≤ 1048576) : ∃ MC : Array Value, (∀ W, (Instr.makeSlice 25 (.int .i64 (n : Int)) (.int .i64 (n : Int))).run Try.prog W = .ok (.slice (some ⟨W.heap.size, 0, none⟩) n n) (W.alloc (.cells MC 2))) ∧
    ∀ W : World, Own (W.alloc (.cells MC 2)) W.heap.size 2 (some ⟨W.heap.size, 0, none⟩) n n (I (List.replicate n 0)) := by
  obtain ⟨i, hi, hz0, hz1, hz2⟩ := info_parts info_int64
  refine ⟨madeCells (Value.int .i64 0).cells (n * 1), fun W => ?_, fun W => ?_⟩
  · have hr := run_make (P := Try.prog) W 25 2 i (.int .i64 0) und_int64s hi hz0 .i64 .i64 n n (by omega) (Int.le_refl _) (by rw [hz2]; omega) (by omega)
    simp only [Int.toNat_natCast, hz1] at hr
    exact hr
  · have h := World.ownsRow_lit (e := 2) (size := 1) (base := W.heap.size) W (madeCells (Value.int .i64 0).cells (n * 1)) n (Nat.le_refl _) (by unfold maxLen; omega) (by simp [size_madeCells])
    rw [made_one (.int .i64 0) n rfl] at h
    rw [I_replicate]
    exact h
def evenCh (b S s0 e0 : Int) (t : List (List Int)) (p : Nat) : Ch := ⟨b, S, s0, e0, [t], List.replicate p 0⟩
theorem cube1 {w : World} {a a1 : Option Addr} {n1 c c1 : Nat} {t : List (List Int)} (h : Sl w a 1 c [.slice a1 n1 c1]) (hm : Mat w a1 n1 c1 t) : Cube w a 1 c [t] :=
  ⟨rfl, _, h, fun k hk => (by
    obtain rfl : k = 0 := by omega
    exact ⟨a1, n1, c1, rfl, hm⟩)⟩
theorem own_lit1g (w : World) (E : TypeId) (v : Value) {B g : Nat} (hB : B ≤ g) (hg : g = w.heap.size) : Own (w.alloc (.cells #[v] E)) B E (some ⟨g, 0, none⟩) 1 1 [v] := by subst hg; exact (own_lit1 w E v).mono hB
end Go.Proofs.Ytaiieodllhoelaa
