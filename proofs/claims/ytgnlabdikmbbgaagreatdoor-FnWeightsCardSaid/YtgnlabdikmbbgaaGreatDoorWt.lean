/- Walks: weightings: which are valid. -/
import Derived.Test.YtgnlabdikmbbgaaGreatDoorPow
namespace Go.Proofs.YtgnlabdikmbbgaaGreatDoor
set_option maxRecDepth 100000
open Go.RowKit

structure Wt where
  base : Int
  modulus : Int
  target : Int
  weights : List Int

/-- block b holds a weighting, whose weights are the slice (a, n, c) -/
structure IsWt (w : World) (b : Nat) (W : Wt) (a : Option Addr) (n c : Nat) : Prop where
  c0 : w.cell? ⟨b, 0, none⟩ = some (.int .i64 W.base)
  c1 : w.cell? ⟨b, 1, none⟩ = some (.int .i64 W.modulus)
  c2 : w.cell? ⟨b, 2, none⟩ = some (.int .i64 W.target)
  c3 : w.cell? ⟨b, 3, none⟩ = some (.slice a n c)
  ws : Ints w a n c W.weights
theorem IsWt.ext {w w' : World} {b : Nat} {W : Wt} {a : Option Addr} {n c : Nat} (h : IsWt w b W a n c) (hx : Ext w w') : IsWt w' b W a n c :=
  ⟨hx.cell h.c0, hx.cell h.c1, hx.cell h.c2, hx.cell h.c3, h.ws.ext hx⟩

def validB (W : Wt) : Bool := manyB W.base W.weights.length && (inB W.modulus 2 36 && (inB W.target 0 (W.modulus - 1) && belowB W.weights W.modulus))

set_option maxHeartbeats 2000000 in
theorem spec_is (b : Nat) (W : Wt) (a : Option Addr) (n c : Nat) (w : World) (h : IsWt w b W a n c) :
    Calls Tryz.prog 97 #[.pointer (some ⟨b, 0, none⟩)] w (Qt (.bool (validB W)) w) := by
  obtain ⟨base, modulus, target, l⟩ := W
  obtain ⟨c0, c1, c2, c3, hw⟩ := h
  simp only at c0 c1 c2 c3 hw
  have HL := Lib.hid hw.len
  have HW := Lib.hid hw
  clear hw
  have HM := Lib.hid (spec_many base n)
  have HI := Lib.hid (spec_in modulus 2 36)
  have HT := Lib.hid (spec_in target 0 (modulus - 1))
  cases hm : manyB base n
  · rw [hm] at HM
    have HV := Lib.hid (show validB ⟨base, modulus, target, l⟩ = false by rw [validB, HL.out, hm]; rfl)
    clear hm
    go_enter Tryz.func97, Tryz.ntmps97
    go_wp2
    go_quiet ((go_at_call 131; exact quietS (HM.out _)))
    go_wp2
    go_ret
    exact ⟨rb HV.out.symm, _, rfl⟩
  · rw [hm] at HM
    have hn : n ≤ 20 := by
      have : inB n 1 20 = true := by unfold manyB at hm; simp at hm; exact hm.2.1
      have := (inB_t.1 this).2; omega
    cases hi : inB modulus 2 36
    · rw [hi] at HI
      have HV := Lib.hid (show validB ⟨base, modulus, target, l⟩ = false by rw [validB, HL.out, hm, hi]; rfl)
      clear hm hi
      go_enter Tryz.func97, Tryz.ntmps97
      go_wp2
      go_quiet ((first | (go_at_call 131; exact quietS (HM.out _)) | (go_at_call 132; with_reducible exact quietS (HI.out _))))
      go_wp2
      go_ret
      exact ⟨rb HV.out.symm, _, rfl⟩
    · rw [hi] at HI
      obtain ⟨m2, m36⟩ := inB_t.1 hi
      cases ht : inB target 0 (modulus - 1)
      · rw [ht] at HT
        have HV := Lib.hid (show validB ⟨base, modulus, target, l⟩ = false by rw [validB, HL.out, hm, hi, ht]; rfl)
        clear hm hi ht
        go_enter Tryz.func97, Tryz.ntmps97
        go_wp2
        go_quiet ((first | (go_at_call 131; exact quietS (HM.out _)) | (go_at_call 132; with_reducible exact quietS (HI.out _)) | (go_at_call 132; with_reducible exact quietS (HT.out _))))
        go_wp2
        go_ret
        exact ⟨rb HV.out.symm, _, rfl⟩
      · rw [ht] at HT
        have HV := Lib.hid (show validB ⟨base, modulus, target, l⟩ = belowB l modulus by rw [validB, HL.out, hm, hi, ht]; rfl)
        clear hm hi ht
        go_enter Tryz.func97, Tryz.ntmps97
        go_wp2
        go_quiet ((first | (go_at_call 131; exact quietS (HM.out _)) | (go_at_call 132; with_reducible exact quietS (HI.out _)) | (go_at_call 132; with_reducible exact quietS (HT.out _)) | (go_at_call 133; exact quietS (spec_below _ _ _ l _ _ (HW.out.drewN _) (by omega) (by omega) (by omega)))))
        go_wp2
        go_ret
        exact ⟨rb HV.out.symm, _, rfl⟩

def wtVal (W : Wt) (a : Option Addr) (n c : Nat) : Value := .agg #[.int .i64 W.base, .int .i64 W.modulus, .int .i64 W.target, .slice a n c]

set_option maxHeartbeats 400000 in
theorem validW1 (x : Int) (b : Nat) (m : Int) (w : World) (hc : w.cell? ⟨b, 1, none⟩ = some (.int .i64 m)) (h1 : 2 ≤ m) (h2 : m ≤ 36) :
    Calls Tryz.prog 74 #[.int .i64 x, .pointer (some ⟨b, 0, none⟩)] w (Ret (.bool (!inB x 0 (m - 1))) w) := by
  go_enter Tryz.func74, Tryz.ntmps74
  go_wp2_with (go_at_call 43; refine (impl_in _ _ _ _).mono ?_; rintro e w' ⟨rfl, rfl⟩)
  go_ret
  exact ⟨rfl, Ext.refl _⟩

theorem any_not {l : List Int} {n : Int} : (!(l.any fun x => !inB x 0 (n - 1))) = belowB l n := by
  simp [belowB, List.all_eq_not_any_not]

set_option maxHeartbeats 1000000 in
theorem impl_valid (W : Wt) (a : Option Addr) (n c : Nat) (w : World) (hw : Ints w a n c W.weights) :
    Calls Tryz.prog 35 #[.agg #[.int .i64 W.base, .int .i64 W.modulus, .int .i64 W.target, .slice a n c]] w (Ret (.bool (validB W)) w) := by
  obtain ⟨base, modulus, target, l⟩ := W
  simp only at hw
  have HL := Lib.hid hw.len
  have HW := Lib.hid hw
  clear hw
  cases hb : baseB base
  · have HV := Lib.hid (show validB ⟨base, modulus, target, l⟩ = false by rw [validB, manyB_base hb]; rfl)
    go_enter Tryz.func35, Tryz.ntmps35
    go_wp2_with (go_at_call 71; refine (impl_base _ _).mono ?_; rintro e w' ⟨rfl, rfl⟩)
    go_ret
    exact ⟨rb HV.out.symm, (Ext.refl _).alloc _⟩
  obtain ⟨b2, b36⟩ := baseB_t hb
  cases hi : inB modulus 2 36
  · have HV := Lib.hid (show validB ⟨base, modulus, target, l⟩ = false by simp [validB, hi])
    go_enter Tryz.func35, Tryz.ntmps35
    go_wp2_with (first | (go_at_call 71; refine (impl_base _ _).mono ?_; rintro e w' ⟨rfl, rfl⟩) | (go_at_call 43; refine (impl_in _ _ _ _).mono ?_; rintro e w' ⟨rfl, rfl⟩))
    go_ret
    exact ⟨rb HV.out.symm, (Ext.refl _).alloc _⟩
  obtain ⟨m2, m36⟩ := inB_t.1 hi
  cases ht : inB target 0 (modulus - 1)
  · have HV := Lib.hid (show validB ⟨base, modulus, target, l⟩ = false by simp [validB, ht])
    go_enter Tryz.func35, Tryz.ntmps35
    go_wp2_with (first | (go_at_call 71; refine (impl_base _ _).mono ?_; rintro e w' ⟨rfl, rfl⟩) | (go_at_call 43; refine (impl_in _ _ _ _).mono ?_; rintro e w' ⟨rfl, rfl⟩))
    go_ret
    exact ⟨rb HV.out.symm, (Ext.refl _).alloc _⟩
  cases hn : inB n 1 20
  · have HV := Lib.hid (show validB ⟨base, modulus, target, l⟩ = false by rw [validB, manyB_out (by simpa [HL.out] using hn)]; rfl)
    go_enter Tryz.func35, Tryz.ntmps35
    go_wp2_with (first | (go_at_call 71; refine (impl_base _ _).mono ?_; rintro e w' ⟨rfl, rfl⟩) | (go_at_call 43; refine (impl_in _ _ _ _).mono ?_; rintro e w' ⟨rfl, rfl⟩))
    go_ret
    exact ⟨rb HV.out.symm, (Ext.refl _).alloc _⟩
  have hn2 : n ≤ 20 := by have := (inB_t.1 hn).2; omega
  have HM := Lib.hid (show manyB base (l.length : Int) = decide (base ^ n ≤ 1000000000000000) by rw [HL.out, manyB_in hb hn])
  cases hp : decide (base ^ n ≤ 1000000000000000)
  · have HV := Lib.hid (show validB ⟨base, modulus, target, l⟩ = false by rw [validB, HM.out, hp]; rfl)
    go_enter Tryz.func35, Tryz.ntmps35
    go_wp2_with (first | (go_at_call 71; refine (impl_base _ _).mono ?_; rintro e w' ⟨rfl, rfl⟩) | (go_at_call 43; refine (impl_in _ _ _ _).mono ?_; rintro e w' ⟨rfl, rfl⟩) | (go_at_call 72; refine (impl_power _ _ _ _ b2 (by omega) (by omega) (by omega) (by omega)).mono ?_; rintro e w' ⟨rfl, rfl⟩))
    go_ret
    exact ⟨rb HV.out.symm, (Ext.refl _).alloc _⟩
  · have HV := Lib.hid (show validB ⟨base, modulus, target, l⟩ = belowB l modulus by simp only [validB]; rw [HM.out, hp, hi, ht]; rfl)
    go_enter Tryz.func35, Tryz.ntmps35
    go_wp2_with (first | (go_at_call 71; refine (impl_base _ _).mono ?_; rintro e w' ⟨rfl, rfl⟩) | (go_at_call 43; refine (impl_in _ _ _ _).mono ?_; rintro e w' ⟨rfl, rfl⟩) | (go_at_call 72; refine (impl_power _ _ _ _ b2 (by omega) (by omega) (by omega) (by omega)).mono ?_; rintro e w' ⟨rfl, rfl⟩))
    refine (containsFunc_ints a n c l 74 _ (fun x => !inB x 0 (modulus - 1)) (ofI fun x => !inB x 0 (modulus - 1)) _ (HW.out.ext ((Ext.refl w).alloc _)) (by omega) (fun x => rfl)
      ⟨fun _ _ => rfl, fun v hvl w' hx => by obtain ⟨x, _, rfl⟩ := mem_I hvl; exact validW1 x w.heap.size modulus w' (hx.cell (by go_simp)) m2 m36⟩).mono ?_
    rintro e w' ⟨rfl, hx⟩
    go_wp2
    go_ret
    exact ⟨rb (by rw [HV.out, ← any_not]), ((Ext.refl _).alloc _).trans hx⟩
end Go.Proofs.YtgnlabdikmbbgaaGreatDoor
