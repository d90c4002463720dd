/- Walks: the sum of a weighting. -/
import Derived.Test.YtefkefmhfoedcaaDoorWt
namespace Go.Proofs.YtefkefmhfoedcaaDoor
set_option maxRecDepth 100000
open Go.RowKit

def okWord (W : Wt) (s : List UInt8) : Bool := wordB s W.base 20 && decide ((s.length : Int) = W.weights.length)

/-- the sum of products, place by place -/
def dot : List Int → List Int → Int
  | x :: xs, y :: ys => x * y + dot xs ys
  | _, _ => 0
theorem dot_take (ws ds : List Int) : ∀ k, k < ws.length → k < ds.length → dot (ws.take (k + 1)) (ds.take (k + 1)) = dot (ws.take k) (ds.take k) + ws.getD k 0 * ds.getD k 0 := by
  induction ws generalizing ds with
  | nil => intro k h; simp at h
  | cons x xs ih =>
    cases ds with
    | nil => intro k _ h; simp at h
    | cons y ys =>
      intro k h1 h2
      cases k with
      | zero => simp [dot]
      | succ k =>
        have := ih ys k (by simpa using h1) (by simpa using h2)
        simp only [List.take_succ_cons, dot, List.getD_cons_succ]
        rw [this]; omega
theorem mul_bd {x y a b : Int} (h1 : 0 ≤ x) (h2 : x ≤ a) (h3 : 0 ≤ y) (h4 : y ≤ b) : 0 ≤ x * y ∧ x * y ≤ a * b :=
  ⟨Int.mul_nonneg h1 h3, Int.mul_le_mul h2 h4 h3 (by omega)⟩
/-- numbers from 0 to 36 -/
def Small (l : List Int) : Prop := ∀ x ∈ l, 0 ≤ x ∧ x ≤ 36
theorem Small.at {l : List Int} (h : Small l) (k : Nat) (hk : k < l.length) : 0 ≤ l.getD k 0 ∧ l.getD k 0 ≤ 36 := h _ (getD_mem l 0 k hk)
theorem Small.take {l : List Int} (h : Small l) (k : Nat) : Small (l.take k) := fun x hx => h x (List.mem_of_mem_take hx)
theorem dot_bd {ws ds : List Int} (hw : Small ws) (hd : Small ds) : 0 ≤ dot ws ds ∧ dot ws ds ≤ 1296 * ds.length := by
  induction ws generalizing ds with
  | nil => simp [dot]; omega
  | cons x xs ih =>
    cases ds with
    | nil => simp [dot]
    | cons y ys =>
      have h1 := hw x (by simp)
      have h2 := hd y (by simp)
      have h3 := mul_bd h1.1 h1.2 h2.1 h2.2
      have h4 := ih (fun z hz => hw z (by simp [hz])) (fun z hz => hd z (by simp [hz])) (ds := ys)
      simp only [dot, List.length_cons]
      omega

theorem belowB_small {l : List Int} {m : Int} (h : belowB l m = true) (hm : m ≤ 37) : Small l := fun x hx => by
  unfold belowB at h
  rw [List.all_eq_true] at h
  have := inB_t.1 (h x hx)
  omega
theorem wordB_small {s : List UInt8} {b most : Int} (h : wordB s b most = true) : Small (digs s) := fun x hx => by
  unfold wordB at h
  simp only [Bool.and_eq_true, List.all_eq_true] at h
  obtain ⟨c, hc, rfl⟩ := List.mem_map.1 hx
  have h1 := inB_t.1 (h.1 c hc)
  have h2 := dig_bd c
  omega
theorem digs_len (s : List UInt8) : (digs s).length = s.length := by simp [digs]


theorem dot_comm (xs ys : List Int) : dot xs ys = dot ys xs := by
  induction xs generalizing ys with
  | nil => cases ys <;> rfl
  | cons x xs ih => cases ys with
    | nil => rfl
    | cons y ys => simp only [dot]; rw [ih, Int.mul_comm]


theorem okWord_no {W : Wt} {s : List UInt8} (h : wordB s W.base 20 = false) : okWord W s = false := by simp [okWord, h]
theorem okWord_yes {W : Wt} {s : List UInt8} (h : wordB s W.base 20 = true) : okWord W s = decide ((s.length : Int) = W.weights.length) := by simp [okWord, h]

end Go.Proofs.YtefkefmhfoedcaaDoor
