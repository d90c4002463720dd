/- Words for the chain with one table. -/
import Derived.Test.YtbcfbkhbangeoaaChW
import Derived.Test.YtbcfbkhbangeoaaSAt
import Derived.Deep.RegionHeld3
import Derived.Deep.CutRange
namespace Go.Proofs.Ytbcfbkhbangeoaa
set_option maxRecDepth 100000
open Go.RowKit

theorem Chg.allocQ {lo hi : Nat} {a b : World} (h : Chg lo hi a b) (o : Obj) : Chg lo hi a (b.alloc o) := h.trans (Chg.ext ((Ext.refl _).alloc o) _ _)
theorem Chg.drewQ {lo hi : Nat} {a b : World} (h : Chg lo hi a b) : Chg lo hi a b.drew := h.trans (Chg.ext (Ext.drew (Ext.refl _)) _ _)
theorem Chg.setQ {lo hi : Nat} {a b : World} (h : Chg lo hi a b) (p : Addr) (u : Value) (hl : lo ≤ p.block) (hh : p.block < hi) : Chg lo hi a (b.setCell p u) := h.trans (Chg.setP _ _ _ hl hh)
/-- all rows as long -/
def TabOkE (b : Int) (t : List (List Int)) : Prop := ∀ r ∈ t, (r.length : Int) = b
/-- a copy of a table -/
def RetTabI (ll : List (List Int)) (w : World) (e : Ending) (w' : World) : Prop := ∃ a c, e = .returned (.slice a ll.length c) ∧ OwnMat w' w.heap.size 23 2 a ll.length c ll ∧ Ext w w'
/-- make([]int64, n): what it lays -/
theorem made_ints (n : Nat) (hn : n ≤ 1048576) : ∃ MC : Array Value, (∀ W, (Instr.makeSlice 23 (.int .i64 (n : Int)) (.int .i64 (n : Int))).run Try.prog W = .ok (.slice (some ⟨W.heap.size, 0, none⟩) n n) (W.alloc (.cells MC 2))) ∧
    ∀ W : World, Own (W.alloc (.cells MC 2)) W.heap.size 2 (some ⟨W.heap.size, 0, none⟩) n n (I (List.replicate n 0)) := by
  obtain ⟨i, hi, hz0, hz1, hz2⟩ := info_parts info_int64
  refine ⟨madeCells (Value.int .i64 0).cells (n * 1), fun W => ?_, fun W => ?_⟩
  · have hr := run_make (P := Try.prog) W 23 2 i (.int .i64 0) und_int64s hi hz0 .i64 .i64 n n (by omega) (Int.le_refl _) (by rw [hz2]; omega) (by omega)
    simp only [Int.toNat_natCast, hz1] at hr
    exact hr
  · have h := World.ownsRow_lit (e := 2) (size := 1) (base := W.heap.size) W (madeCells (Value.int .i64 0).cells (n * 1)) n (Nat.le_refl _) (by unfold maxLen; omega) (by simp [size_madeCells])
    rw [made_one (.int .i64 0) n rfl] at h
    rw [I_replicate]
    exact h
def evenCh (b S s0 e0 : Int) (t : List (List Int)) (p : Nat) : Ch := ⟨b, S, s0, e0, [t], List.replicate p 0⟩
theorem cube1 {w : World} {a a1 : Option Addr} {n1 c c1 : Nat} {t : List (List Int)} (h : Sl w a 1 c [.slice a1 n1 c1]) (hm : Mat w a1 n1 c1 t) : Cube w a 1 c [t] :=
  ⟨rfl, _, h, fun k hk => (by
    obtain rfl : k = 0 := by omega
    exact ⟨a1, n1, c1, rfl, hm⟩)⟩
theorem own_lit1g (w : World) (E : TypeId) (v : Value) {B g : Nat} (hB : B ≤ g) (hg : g = w.heap.size) : Own (w.alloc (.cells #[v] E)) B E (some ⟨g, 0, none⟩) 1 1 [v] := by subst hg; exact (own_lit1 w E v).mono hB
end Go.Proofs.Ytbcfbkhbangeoaa
