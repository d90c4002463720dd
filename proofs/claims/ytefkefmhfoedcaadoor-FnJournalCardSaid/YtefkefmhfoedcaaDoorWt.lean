/- Walks: weightings: which are valid. -/
import Derived.Test.YtefkefmhfoedcaaDoorPow
namespace Go.Proofs.YtefkefmhfoedcaaDoor
set_option maxRecDepth 100000
open Go.RowKit

structure Wt where
  base : Int
  modulus : Int
  target : Int
  weights : List Int

/-- block b holds a weighting, whose weights are the slice (a, n, c) -/
structure IsWt (w : World) (b : Nat) (W : Wt) (a : Option Addr) (n c : Nat) : Prop where
  c0 : w.cell? ⟨b, 0, none⟩ = some (.int .i64 W.base)
  c1 : w.cell? ⟨b, 1, none⟩ = some (.int .i64 W.modulus)
  c2 : w.cell? ⟨b, 2, none⟩ = some (.int .i64 W.target)
  c3 : w.cell? ⟨b, 3, none⟩ = some (.slice a n c)
  ws : Ints w a n c W.weights
theorem IsWt.ext {w w' : World} {b : Nat} {W : Wt} {a : Option Addr} {n c : Nat} (h : IsWt w b W a n c) (hx : Ext w w') : IsWt w' b W a n c :=
  ⟨hx.cell h.c0, hx.cell h.c1, hx.cell h.c2, hx.cell h.c3, h.ws.ext hx⟩

def validB (W : Wt) : Bool := manyB W.base W.weights.length && (inB W.modulus 2 36 && (inB W.target 0 (W.modulus - 1) && belowB W.weights W.modulus))

set_option maxHeartbeats 2000000 in
theorem spec_is (b : Nat) (W : Wt) (a : Option Addr) (n c : Nat) (w : World) (h : IsWt w b W a n c) :
    Calls Tryd.prog 25 #[.pointer (some ⟨b, 0, none⟩)] w (Qt (.bool (validB W)) w) := by
  obtain ⟨base, modulus, target, l⟩ := W
  obtain ⟨c0, c1, c2, c3, hw⟩ := h
  simp only at c0 c1 c2 c3 hw
  have HL := Lib.hid hw.len
  have HW := Lib.hid hw
  clear hw
  have HM := Lib.hid (spec_many base n)
  have HI := Lib.hid (spec_in modulus 2 36)
  have HT := Lib.hid (spec_in target 0 (modulus - 1))
  cases hm : manyB base n
  · rw [hm] at HM
    have HV := Lib.hid (show validB ⟨base, modulus, target, l⟩ = false by rw [validB, HL.out, hm]; rfl)
    clear hm
    go_enter Tryd.func25, Tryd.ntmps25
    go_wp2
    go_quiet ((go_at_call 39; exact quietS (HM.out _)))
    go_wp2
    go_ret
    exact ⟨rb HV.out.symm, _, rfl⟩
  · rw [hm] at HM
    have hn : n ≤ 20 := by
      have : inB n 1 20 = true := by unfold manyB at hm; simp at hm; exact hm.2.1
      have := (inB_t.1 this).2; omega
    cases hi : inB modulus 2 36
    · rw [hi] at HI
      have HV := Lib.hid (show validB ⟨base, modulus, target, l⟩ = false by rw [validB, HL.out, hm, hi]; rfl)
      clear hm hi
      go_enter Tryd.func25, Tryd.ntmps25
      go_wp2
      go_quiet ((first | (go_at_call 39; exact quietS (HM.out _)) | (go_at_call 40; with_reducible exact quietS (HI.out _))))
      go_wp2
      go_ret
      exact ⟨rb HV.out.symm, _, rfl⟩
    · rw [hi] at HI
      obtain ⟨m2, m36⟩ := inB_t.1 hi
      cases ht : inB target 0 (modulus - 1)
      · rw [ht] at HT
        have HV := Lib.hid (show validB ⟨base, modulus, target, l⟩ = false by rw [validB, HL.out, hm, hi, ht]; rfl)
        clear hm hi ht
        go_enter Tryd.func25, Tryd.ntmps25
        go_wp2
        go_quiet ((first | (go_at_call 39; exact quietS (HM.out _)) | (go_at_call 40; with_reducible exact quietS (HI.out _)) | (go_at_call 40; with_reducible exact quietS (HT.out _))))
        go_wp2
        go_ret
        exact ⟨rb HV.out.symm, _, rfl⟩
      · rw [ht] at HT
        have HV := Lib.hid (show validB ⟨base, modulus, target, l⟩ = belowB l modulus by rw [validB, HL.out, hm, hi, ht]; rfl)
        clear hm hi ht
        go_enter Tryd.func25, Tryd.ntmps25
        go_wp2
        go_quiet ((first | (go_at_call 39; exact quietS (HM.out _)) | (go_at_call 40; with_reducible exact quietS (HI.out _)) | (go_at_call 40; with_reducible exact quietS (HT.out _)) | (go_at_call 41; exact quietS (spec_below _ _ _ l _ _ (HW.out.drewN _) (by omega) (by omega) (by omega)))))
        go_wp2
        go_ret
        exact ⟨rb HV.out.symm, _, rfl⟩

def wtVal (W : Wt) (a : Option Addr) (n c : Nat) : Value := .agg #[.int .i64 W.base, .int .i64 W.modulus, .int .i64 W.target, .slice a n c]

end Go.Proofs.YtefkefmhfoedcaaDoor
