/- Walks: the word of digits, in the program and in the reference. -/
import Derived.Test.YtccoopnoakhedaaVar
import Derived.Laws.BytesArg
namespace Go.Proofs.Ytccoopnoakhedaa
set_option maxRecDepth 100000
open Go.RowKit

theorem und_u8s : Try.prog.underlying 22 = some (.slice 5) := Try.underlying22
theorem info_u8 : (Try.prog.info? 5).map (fun i => (i.zero, i.size, i.bytes)) = some (some (.int .u8 0), 1, 1) := by kernel_rfl
theorem ru {a b : Int} (h : a = b) : Ending.returned (.int .u8 a) = .returned (.int .u8 b) := by rw [h]
def sym (d : Int) : Int := if d < 10 then 48 + d else 55 + d
def U (l : List Int) : List Value := l.map (.int .u8)
def textOf (ds : List Int) : ByteArray := strOfNums (ds.map sym)
theorem textOf_size (ds : List Int) : (textOf ds).size = ds.length := by rw [textOf, strOfNums_size, List.length_map]
def Dig36 (ds : List Int) : Prop := ∀ d ∈ ds, 0 ≤ d ∧ d ≤ 35
theorem Dig36.gi {ds : List Int} (h : Dig36 ds) {k : Nat} (hk : k < ds.length) : 0 ≤ gi ds k ∧ gi ds k ≤ 35 := h _ (by unfold Go.Proofs.Ytccoopnoakhedaa.gi; exact getD_mem ds 0 k hk)


theorem run_bytes_text (w : World) (B : Nat) (a : Option Addr) (n c : Nat) (xs : List Int) (ho : Own w B 5 a n c (U xs)) :
    (convert 22 9 (.slice a n c)).run Try.prog w = .ok (.string (strOfNums xs)) w := by
  have hl : xs.length = n := by have := ho.len; rwa [U, List.length_map] at this
  have hs := ho.sl
  rcases ho.2 with ⟨hv, h0⟩ | ⟨g, cap, cur, hv, _⟩
  · simp only [Value.slice.injEq] at hv
    obtain ⟨rfl, rfl, rfl⟩ := hv
    obtain rfl := List.eq_nil_of_length_eq_zero hl
    exact run_convert_bytes_nil _ 22 5 (by kernel_rfl) (by kernel_rfl) 0 0 9 (by kernel_rfl)
  · simp only [Value.slice.injEq, true_and] at hv
    obtain ⟨rfl, rfl⟩ := hv
    refine run_convert_bytes_arg _ 22 5 (by kernel_rfl) (by kernel_rfl) _ _ n c xs hl (fun i hi => ?_) 9 (by kernel_rfl)
    obtain ⟨b', off', ha, hc⟩ := hs.cells (by omega)
    simp only [Option.some.injEq, Addr.mk.injEq, and_true] at ha
    obtain ⟨rfl, rfl⟩ := ha
    rw [hc i hi]
    simp [U, List.getD_eq_getElem?_getD, show i < xs.length by omega]

theorem alpha_all : ∀ m : Fin 36, ((((⟨#[48, 49, 50, 51, 52, 53, 54, 55, 56, 57, 65, 66, 67, 68, 69, 70, 71, 72, 73, 74, 75, 76, 77, 78, 79, 80, 81, 82, 83, 84, 85, 86, 87, 88, 89, 90]⟩ : ByteArray)[m.val]'(by show m.val < 36; exact m.isLt)).toNat : Nat) : Int) = sym (m.val : Int) := by decide +kernel
theorem alpha_at (d : Int) (h0 : 0 ≤ d) (h1 : d ≤ 35) (h : d.toNat < (⟨#[48, 49, 50, 51, 52, 53, 54, 55, 56, 57, 65, 66, 67, 68, 69, 70, 71, 72, 73, 74, 75, 76, 77, 78, 79, 80, 81, 82, 83, 84, 85, 86, 87, 88, 89, 90]⟩ : ByteArray).size) : ((((⟨#[48, 49, 50, 51, 52, 53, 54, 55, 56, 57, 65, 66, 67, 68, 69, 70, 71, 72, 73, 74, 75, 76, 77, 78, 79, 80, 81, 82, 83, 84, 85, 86, 87, 88, 89, 90]⟩ : ByteArray)[d.toNat]'h).toNat : Nat) : Int) = sym d := by
  have := alpha_all ⟨d.toNat, by omega⟩
  simp only [Int.toNat_of_nonneg h0] at this
  exact this

set_option maxHeartbeats 1000000 in
theorem impl_wordOf (a : Option Addr) (n c : Nat) (ds : List Int) (w : World) (hv : Ints w a n c ds) (hd : Dig36 ds) (hn : n ≤ 1048576) :
    Calls Try.prog 24 #[.slice a n c] w (Ret (.string (textOf ds)) w) := by
  have HL := Lib.hid hv.len
  obtain ⟨b, off, hix, hcell⟩ := hv.ix (P := Try.prog) 25 2 und_int64s cell_int64
  have Hhv := Lib.hid hv; clear hv; have Hhd := Lib.hid hd; clear hd
  go_enter Try.func24, Try.ntmps24
  go_wp2_with fail
  go_loopw [3, 5, 9] (fun v _ i wr => ∃ (k : Nat) (ad : Option Addr) (c : Nat), k ≤ n ∧ i = .int .i64 k ∧ v = .slice ad k c ∧ Own wr w.heap.size 5 ad k c (U ((ds.take k).map sym)) ∧ Ext w wr) (fun _ _ i _ => n - (intOf i).toNat)
  case atStart => exact ⟨0, _, _, Nat.zero_le _, rfl, rfl, Own.lit0 w _, (Ext.refl w).alloc _⟩
  case round =>
    obtain ⟨k, ad, c, hk, rfl, rfl, ho, hx⟩ := hrel
    have Hho := Lib.hid ho; clear ho
    by_cases hlt : k < n
    · obtain ⟨d0, d1⟩ := Hhd.out.gi (k := k) (by rw [HL.out]; exact hlt)
      go_wp2_with (at_builtin; refine law_append1 _ rfl _ _ 22 rfl 5 (.int .u8 0) 1 und_u8s info_u8 rfl w.heap.size ad k c _ _ rfl rfl rfl Hho.out hx.le (by omega) (by omega) ?_; intro ad' c' w1 ho1 hb1 _; have hxw1 : Ext w w1 := Ext.below (by repeat (first | (with_reducible exact Ext.refl _) | (with_reducible refine Ext.drewN ?_ _) | (with_reducible refine Ext.drew ?_) | (with_reducible refine Ext.alloc ?_ _) | ((with_reducible refine Ext.setCell ?_ ?_ _); rotate_left; focus (first | (simp; done) | (simp; omega) | omega)) | assumption | (with_reducible refine Ext.trans ?_ (by assumption)))) hb1)
      refine ⟨⟨k + 1, ad', c', by omega, by go_num, rfl, ?_, hxw1⟩, by simp [intOf]; omega⟩
      rw [alpha_at _ d0 d1] at ho1
      rw [take_gi (by rw [HL.out]; exact hlt), List.map_append, U, List.map_append]
      exact ho1
    · have HR := Lib.hid (run_bytes_text wr _ ad k c _ Hho.out)
      have hr := HR.out
      go_wp2
      go_ret
      obtain rfl : k = n := by omega
      exact ⟨by rw [textOf, take_full (by rw [List.length_map, HL.out]; exact Nat.le_refl _)]; rfl, hx⟩
end Go.Proofs.Ytccoopnoakhedaa
