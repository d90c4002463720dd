/- Plain: texts that are cut at a mark into what they were joined of; small decimals. Conditions: none. -/
import Derived.Test.YtgnlabdikmbbgaaGreatDoorJrM
import Derived.Lib.Split
import Derived.Lib.SplitLaws
import Derived.Lib.Join
import Derived.Lib.ParseIntB
namespace Go.Proofs.YtgnlabdikmbbgaaGreatDoor
set_option maxRecDepth 100000
open Go.RowKit

theorem occ_one {c : UInt8} (s : List UInt8) (j : Nat) : Go.Lib.occAt s [c] j = decide (s[j]? = some c) := by
  unfold Go.Lib.occAt
  rw [Bool.eq_iff_iff, decide_eq_true_eq]
  cases h : s.drop j with
  | nil =>
    have : s.length ≤ j := List.drop_eq_nil_iff.1 h
    rw [List.getElem?_eq_none this]; simp
  | cons x r =>
    have h1 : s[j]? = some x := by
      have := congrArg (·[0]?) h
      simpa using this
    rw [h1]
    simp only [List.isPrefixOf, Bool.and_true, beq_iff_eq, Option.some.injEq]
    exact eq_comm
theorem idx_one {c : UInt8} {p r : List UInt8} (h : c ∉ p) : Go.Lib.index (p ++ c :: r) [c] = p.length := by
  refine Go.Lib.index_first (by simp) ?_ fun j hj => ?_
  · rw [occ_one, decide_eq_true_eq, List.getElem?_append_right (Nat.le_refl _)]; simp
  · rw [occ_one, decide_eq_false_iff_not, List.getElem?_append_left hj, List.getElem?_eq_getElem hj]
    intro he
    exact h (by rw [← Option.some.inj he]; exact List.getElem_mem hj)
theorem idx_no {c : UInt8} {p : List UInt8} (h : c ∉ p) : Go.Lib.index p [c] = -1 := by
  refine Go.Lib.index_none fun j _ => ?_
  rw [occ_one, decide_eq_false_iff_not]
  intro he
  exact h (List.mem_of_getElem? he)
theorem join_more (c : UInt8) (p q : List UInt8) (qs : List (List UInt8)) : Go.Lib.join (p :: q :: qs) [c] = p ++ c :: Go.Lib.join (q :: qs) [c] := by
  rw [Go.Lib.join_cons, Go.Lib.join_cons]
  simp [Go.Lib.joinTail]
theorem splitK_join (c : UInt8) : ∀ (ps : List (List UInt8)) (p : List UInt8), (∀ x ∈ p :: ps, c ∉ x) → Go.Lib.splitK [c] 0 (Go.Lib.count (Go.Lib.join (p :: ps) [c]) [c]) (Go.Lib.join (p :: ps) [c]) = p :: ps
  | [], p, h => by
    rw [Go.Lib.join_one, Go.Lib.count_miss (idx_no (h p (List.mem_cons_self ..)))]; rfl
  | q :: qs, p, h => by
    have hp := h p (List.mem_cons_self ..)
    have hi := idx_one (r := Go.Lib.join (q :: qs) [c]) hp
    have hd : (p ++ c :: Go.Lib.join (q :: qs) [c]).drop (p.length + 1) = Go.Lib.join (q :: qs) [c] := by
      rw [List.drop_append]; simp
    rw [join_more, Go.Lib.count_hit (by simp) hi]
    simp only [List.length_singleton]
    rw [hd, Nat.add_comm 1 _]
    unfold Go.Lib.splitK
    rw [hi]
    have hne : ¬ ((p.length : Int) == -1) = true := fun e => by have := beq_iff_eq.1 e; omega
    rw [if_neg hne]
    simp only [Int.toNat_natCast, Nat.add_zero, List.length_singleton]
    rw [hd, splitK_join c qs q (fun x hx => h x (List.mem_cons_of_mem _ hx)), List.take_left' rfl]
/-- the text of parts that are joined -/
def joinS (c : UInt8) (ps : List ByteArray) : ByteArray := ⟨(Go.Lib.join (ps.map bl) [c]).toArray⟩
theorem splitB_join {c : UInt8} {ps : List ByteArray} (h0 : ps ≠ []) (h : ∀ x ∈ ps, c ∉ bl x) :
    Go.Lib.splitB ⟨#[c]⟩ 0 (Go.Lib.countB (joinS c ps) ⟨#[c]⟩) (joinS c ps) = ps := by
  obtain ⟨p, qs, rfl⟩ : ∃ p qs, ps = p :: qs := by cases ps with | nil => exact absurd rfl h0 | cons p qs => exact ⟨p, qs, rfl⟩
  have h1 := Go.Lib.splitB_data ⟨#[c]⟩ 0 (Go.Lib.countB (joinS c (p :: qs)) ⟨#[c]⟩) (joinS c (p :: qs))
  have h2 : Go.Lib.countB (joinS c (p :: qs)) ⟨#[c]⟩ = Go.Lib.count (Go.Lib.join ((p :: qs).map bl) [c]) [c] := rfl
  rw [h2] at h1 ⊢
  have h3 : (joinS c (p :: qs)).data.toList = Go.Lib.join ((p :: qs).map bl) [c] := by simp [joinS]
  rw [h3] at h1
  rw [List.map_cons] at h1
  have h4 : (⟨#[c]⟩ : ByteArray).data.toList = [c] := rfl
  rw [h4, splitK_join c (qs.map bl) (bl p) (fun x hx => by
    rw [← List.map_cons] at hx
    obtain ⟨y, hy, rfl⟩ := List.mem_map.1 hx
    exact h y hy), ← List.map_cons (f := bl)] at h1
  have hinj : ∀ {a b : List ByteArray}, a.map bl = b.map bl → a = b := fun {a b} hab => by
    have := congrArg (List.map mkB) hab
    simpa [Function.comp_def, mk_bl] using this
  exact hinj h1
theorem count_join {c : UInt8} {ps : List ByteArray} (h0 : ps ≠ []) (h : ∀ x ∈ ps, c ∉ bl x) : Go.Lib.countB (joinS c ps) ⟨#[c]⟩ + 1 = ps.length := by
  have h1 := congrArg List.length (splitB_join h0 h)
  rw [← h1]
  exact (Go.Lib.splitB_all ⟨#[c]⟩ (Nat.le_refl 1) 0 _ _ rfl).symm
theorem dec_small : ∀ n : Fin 100, 47 ∉ Go.Lib.itoa (n.val : Int) ∧ 32 ∉ Go.Lib.itoa (n.val : Int) ∧ Go.Lib.parseIntB 64 (Go.Lib.itoa (n.val : Int)) = .ok (n.val : Int) ∧ (Go.Lib.itoa (n.val : Int)).length ≤ 2 ∧ 110 ∉ Go.Lib.itoa (n.val : Int) := by decide +kernel
end Go.Proofs.YtgnlabdikmbbgaaGreatDoor
