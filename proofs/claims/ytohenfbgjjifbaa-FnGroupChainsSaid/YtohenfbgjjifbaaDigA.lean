/- Plain: digits and texts; the checked words of a chain, in order. -/
import Derived.Test.YtohenfbgjjifbaaWordAt
import Derived.Test.YtohenfbgjjifbaaText
import Derived.Test.YtohenfbgjjifbaaChW
namespace Go.Proofs.Ytohenfbgjjifbaa
set_option maxRecDepth 100000
open Go.RowKit

theorem dig36_of {D : Ch} (hb : D.base ≤ 36) {ds : List Int} (h : DigC D ds) : Dig36 ds := fun d hd => by have := h d hd; omega
theorem dig_sym_all : ∀ m : Fin 36, dig (UInt8.ofNat (sym (m.val : Int)).toNat) = (m.val : Int) := by decide +kernel
theorem dig_sym {d : Int} (h0 : 0 ≤ d) (h1 : d ≤ 35) : dig (UInt8.ofNat (sym d).toNat) = d := by
  have := dig_sym_all ⟨d.toNat, by omega⟩
  simp only [Int.toNat_of_nonneg h0] at this
  exact this
theorem digC_text {ds : List Int} (h : Dig36 ds) : digC (textOf ds) = ds := by
  unfold digC textOf digs
  rw [strOfNums_data, List.map_map, List.map_map]
  have : ∀ l : List Int, (∀ d ∈ l, 0 ≤ d ∧ d ≤ 35) → l.map (dig ∘ (fun n => UInt8.ofNat n.toNat) ∘ sym) = l := by
    intro l
    induction l with
    | nil => intro _; rfl
    | cons d l ih => intro hl; rw [List.map_cons, ih fun e he => hl e (List.mem_cons_of_mem _ he)]; simp only [Function.comp]; rw [dig_sym (hl d (List.mem_cons_self ..)).1 (hl d (List.mem_cons_self ..)).2]
  exact this ds h

/-- the checked words, in order -/
def wordsA (D : Ch) : List (List Int) := wordsS D D.places.length 0 D.start
theorem wordsA_mem {D : Ch} (hok : OkCh D) {ds : List Int} (h : ds ∈ wordsA D) : ds.length = D.places.length ∧ DigC D ds ∧ Dig36 ds := by
  obtain ⟨h1, h2, _⟩ := (mem_words (by have := hok.b2; omega) _ _ _ _).1 h
  exact ⟨h1, h2, dig36_of hok.b36 h2⟩
/-- the word of a rank; ahead of all of them the empty one -/
def wordR (D : Ch) (k : Nat) : ByteArray := match k with | 0 => .empty | k + 1 => textOf ((wordsA D).getD k [])
theorem getD_mem' {α : Type} {l : List α} {d : α} {k : Nat} (h : k < l.length) : l.getD k d ∈ l := by
  rw [List.getD_eq_getElem?_getD, List.getElem?_eq_getElem h]; exact List.getElem_mem h
theorem wordR_len {D : Ch} (hok : OkCh D) {k : Nat} (h : k < (wordsA D).length) : (wordR D (k + 1)).size = D.places.length := by
  obtain ⟨h1, _, _⟩ := wordsA_mem hok (getD_mem' (l := wordsA D) (d := []) (k := k) h)
  exact (textOf_size _).trans h1
theorem wordsA_ends (D : Ch) : ((wordsA D).length : Int) = endsS D D.places.length 0 D.start := words_len D _ _ _
end Go.Proofs.Ytohenfbgjjifbaa
