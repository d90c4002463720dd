/- Plain: a checked word is among the completions of itself without a symbol and among the shortenings of itself with one more; all of these lie one edit away. Conditions: none. -/
import Derived.Test.YtcdoanookiimaaaCmp
import Derived.Test.YtcdoanookiimaaaDistM
import Derived.Test.YtcdoanookiimaaaRankM
namespace Go.Proofs.Ytcdoanookiimaaa
set_option maxRecDepth 100000
open Go.RowKit

theorem wordB_up {l : List UInt8} {b : Int} (h : wordB l b 20 = true) : wordB l 36 20 = true := by
  unfold wordB at h ⊢
  simp only [Bool.and_eq_true, decide_eq_true_eq] at h ⊢
  have hb := inB_t.1 h.2.1
  exact ⟨List.all_eq_true.2 fun c hc => inB_t.2 (by have := inB_t.1 (List.all_eq_true.1 h.1 c hc); omega), by decide, h.2.2⟩
theorem chk_word {D : Ch} {x : ByteArray} (h : chkB D x = true) : wordB x.data.toList 36 20 = true := by
  unfold chkB at h
  simp only [Bool.and_eq_true, decide_eq_true_eq] at h
  have h1 := h.1
  unfold runOk at h1
  simp only [Bool.and_eq_true] at h1
  have h2 := h1.2
  unfold wordCh at h2
  simp only [Bool.and_eq_true] at h2
  exact wordB_up h2.1
theorem cutAt_text (ds : List Int) (i : Nat) : cutAt (textOf ds) i = textOf (ds.take i ++ ds.drop (i + 1)) := by
  unfold cutAt
  rw [text_cut, text_cut, ← text_app, textOf_size, List.drop_zero, List.take_length]
theorem insAt_text (ds : List Int) (i : Nat) (d : Int) : insAt (textOf ds) i d = textOf (ds.take i ++ [d] ++ ds.drop i) := by
  unfold insAt
  rw [text_cut, text_cut, ← text_app, ← text_app, textOf_size, List.drop_zero, List.take_length]
/-- a list of words, each checked and one edit away from a word -/
def NearL (D : Ch) (l : List ByteArray) (s : ByteArray) : Prop := ∀ x ∈ l, x.size ≤ 20 ∧ wordB x.data.toList 36 20 = true ∧ chkB D x = true ∧ distS x s = 1
theorem one_of {x s : ByteArray} (h1 : distS x s ≤ 1) (h2 : x.size ≠ s.size) : distS x s = 1 := by
  have := dist_len x s
  omega
theorem cmp_near {D : Ch} {s : ByteArray} (h : cmpB D s = true) : NearL D (cmpL D s) s := by
  intro x hx
  rw [cmpL_yes h, mem_putAll, List.mem_filter] at hx
  obtain ⟨hx, hc⟩ := hx
  have hw := chk_word hc
  refine ⟨wordB_len hw, hw, hc, ?_⟩
  have hz := insT_sizes (Nat.le_refl _) x hx
  refine one_of ?_ (by omega)
  unfold insT at hx
  rw [List.mem_flatten] at hx
  obtain ⟨r, hr, hx⟩ := hx
  obtain ⟨i, hi, rfl⟩ := List.mem_map.1 hr
  unfold insRow at hx
  obtain ⟨d, _, rfl⟩ := List.mem_map.1 hx
  exact dist_more s (textOf [(d : Int)]) i (textOf_size _)
theorem sho_near {D : Ch} {s : ByteArray} (h : shoB D s = true) : NearL D (shoL D s) s := by
  intro x hx
  rw [shoL_yes h, mem_putAll, List.mem_filter] at hx
  obtain ⟨hx, hc⟩ := hx
  have hw := chk_word hc
  refine ⟨wordB_len hw, hw, hc, ?_⟩
  have hz := cutT_sizes (Nat.le_refl _) x hx
  refine one_of ?_ (by omega)
  unfold cutT at hx
  obtain ⟨i, hi, rfl⟩ := List.mem_map.1 hx
  exact dist_less s i
section
variable {D : Ch} {ds : List Int} (hok : OkCh D) (hv : validCh D = true) (hd : DigC D ds) (hl : ds.length = D.places.length) (hc : chkB D (textOf ds) = true) {i : Nat} (hi : i < ds.length)
include hok hv hd hl hi
theorem cut_yes : cmpB D (cutAt (textOf ds) i) = true := by
  have h20 := hok.p20
  have hz := cutAt_size (s := textOf ds) (i := i) (by rw [textOf_size]; exact hi)
  rw [textOf_size] at hz
  unfold cmpB
  rw [hv, Bool.true_and, decide_eq_true (show (cutAt (textOf ds) i).size + 1 = D.places.length by omega), Bool.and_true, cutAt_text]
  refine wordB_text ⟨hok.b2, hok.b36⟩ (fun d h => ?_) (by simp; omega)
  rcases List.mem_append.1 h with h | h
  · exact hd d (List.mem_of_mem_take h)
  · exact hd d (List.mem_of_mem_drop h)
theorem ins_yes (h19 : D.places.length ≤ 19) {z : Int} (hz0 : 0 ≤ z) (hz1 : z < D.base) : shoB D (insAt (textOf ds) i z) = true := by
  have hz := insAt_size (s := textOf ds) (i := i) (by rw [textOf_size]; omega) z
  rw [textOf_size] at hz
  unfold shoB
  rw [hv, Bool.true_and, decide_eq_true (show (insAt (textOf ds) i z).size = D.places.length + 1 by omega), Bool.and_true, insAt_text]
  refine wordB_text ⟨hok.b2, hok.b36⟩ (fun d h => ?_) (by simp; omega)
  rcases List.mem_append.1 h with h | h
  · rcases List.mem_append.1 h with h | h
    · exact hd d (List.mem_of_mem_take h)
    · obtain rfl := List.mem_singleton.1 h; exact ⟨hz0, hz1⟩
  · exact hd d (List.mem_of_mem_drop h)
include hc
theorem cut_has : textOf ds ∈ cmpL D (cutAt (textOf ds) i) := by
  have hz := cutAt_size (s := textOf ds) (i := i) (by rw [textOf_size]; exact hi)
  rw [textOf_size] at hz
  rw [cmpL_yes (cut_yes hok hv hd hl hi), mem_putAll, List.mem_filter]
  refine ⟨?_, hc⟩
  unfold insT
  rw [List.mem_flatten]
  refine ⟨insRow (cutAt (textOf ds) i) D.base.toNat i, List.mem_map.2 ⟨i, List.mem_range.2 (by omega), rfl⟩, ?_⟩
  unfold insRow
  have hg := hd.at hi
  refine List.mem_map.2 ⟨(gi ds i).toNat, List.mem_range.2 (by omega), ?_⟩
  rw [show (((gi ds i).toNat : Nat) : Int) = gi ds i by omega, cutAt_text, insAt_text]
  congr 1
  have e1 : (ds.take i ++ ds.drop (i + 1)).take i = ds.take i := by
    rw [List.take_append_of_le_length (by simp; omega), List.take_take, Nat.min_self]
  have e2 : (ds.take i ++ ds.drop (i + 1)).drop i = ds.drop (i + 1) := by
    rw [List.drop_append_of_le_length (by simp; omega), List.drop_eq_nil_of_le (by simp; omega), List.nil_append]
  rw [e1, e2, gi_get hi, List.append_assoc, List.singleton_append, ← List.drop_eq_getElem_cons hi, List.take_append_drop]
theorem ins_has (h19 : D.places.length ≤ 19) {z : Int} (hz0 : 0 ≤ z) (hz1 : z < D.base) : textOf ds ∈ shoL D (insAt (textOf ds) i z) := by
  have hz := insAt_size (s := textOf ds) (i := i) (by rw [textOf_size]; omega) z
  rw [textOf_size] at hz
  rw [shoL_yes (ins_yes hok hv hd hl hi h19 hz0 hz1), mem_putAll, List.mem_filter]
  refine ⟨?_, hc⟩
  unfold cutT
  refine List.mem_map.2 ⟨i, List.mem_range.2 (by omega), ?_⟩
  rw [insAt_text, cutAt_text]
  congr 1
  have hlt : (ds.take i ++ [z]).length = i + 1 := by simp; omega
  have e1 : (ds.take i ++ [z] ++ ds.drop i).take i = ds.take i := by
    rw [List.append_assoc, List.take_append_of_le_length (by simp; omega), List.take_take, Nat.min_self]
  have e2 : (ds.take i ++ [z] ++ ds.drop i).drop (i + 1) = ds.drop i := by
    rw [← hlt, List.drop_left]
  rw [e1, e2, List.take_append_drop]
end
end Go.Proofs.Ytcdoanookiimaaa
