/- Walks: the chain of a pair of weightings, in the reference. -/
import Derived.Test.YtaiieodllhoelaaPaiC
import Derived.Test.YtaiieodllhoelaaSpW
import Derived.Test.YtaiieodllhoelaaSpJ
namespace Go.Proofs.Ytaiieodllhoelaa
set_option maxRecDepth 100000
open Go.RowKit

theorem SAt.drewN {w : World} {g : Nat} {T : TypeId} {cs : Array Value} (h : SAt w g T cs) (k : Nat) : SAt (w.drewN k) g T cs := h
theorem pW_rules {w : World} {q : Nat} {T : TypeId} {b : Int} {a : Option Addr} {n c : Nat} (h : SAt w q T #[.int .i64 b, .int .i64 b, .int .i64 0, .slice a n c]) :
    w.cell? ⟨q, 0, none⟩ = some (.int .i64 b) ∧ w.cell? ⟨q, 1, none⟩ = some (.int .i64 b) ∧ w.cell? ⟨q, 2, none⟩ = some (.int .i64 0) ∧ w.cell? ⟨q, 3, none⟩ = some (.slice a n c) :=
  ⟨h.cell 0 (by simp), h.cell 1 (by simp), h.cell 2 (by simp), h.cell 3 (by simp)⟩
theorem pW_is {w : World} {q : Nat} {T : TypeId} {b : Int} {a : Option Addr} {n c : Nat} {l : List Int} (h : SAt w q T #[.int .i64 b, .int .i64 b, .int .i64 0, .slice a n c]) (hi : Ints w a n c l) : IsWt w q (pW b l) a n c :=
  let ⟨h0, h1, h2, h3⟩ := pW_rules h; ⟨h0, h1, h2, h3, hi⟩
/-- both weightings lie there -/
def PW2 (w : World) (q : Nat) (b : Int) (a : Option Addr) (n c : Nat) (a2 : Option Addr) (n2 c2 : Nat) (w' : World) : Prop :=
  Ext w w' ∧ SAt w' (q + 1 + 1) 72 #[.int .i64 b, .int .i64 b, .int .i64 0, .slice a n c] ∧ SAt w' (q + 1 + 1 + 1) 72 #[.int .i64 b, .int .i64 b, .int .i64 0, .slice a2 n2 c2]
set_option maxHeartbeats 4000000 in
theorem spec_l09Pair (b : Int) (a : Option Addr) (n c : Nat) (l1 : List Int) (a2 : Option Addr) (n2 c2 : Nat) (l2 : List Int) (w : World) (h1 : Ints w a n c l1) (h2 : Ints w a2 n2 c2 l2) :
    Calls Try.prog 94 #[.int .i64 b, .slice a n c, .slice a2 n2 c2] w (Ret3 (.agg #[.int .i64 b, .int .i64 b, .int .i64 0, .slice a n c]) (.agg #[.int .i64 b, .int .i64 b, .int .i64 0, .slice a2 n2 c2]) (.bool (pairB b l1 l2)) w) := by
  have HL1 := Lib.hid h1.len
  have HL2 := Lib.hid h2.len
  have HI1 := Lib.hid h1
  have HI2 := Lib.hid h2
  clear h1 h2
  have HS1 := Lib.hid (fun W q (hx : Ext w W) (h : SAt W q 72 #[.int .i64 b, .int .i64 b, .int .i64 0, .slice a n c]) => spec_is q (pW b l1) a n c W (pW_is h (HI1.out.ext hx)))
  have HS2 := Lib.hid (fun W q (hx : Ext w W) (h : SAt W q 72 #[.int .i64 b, .int .i64 b, .int .i64 0, .slice a2 n2 c2]) => spec_is q (pW b l2) a2 n2 c2 W (pW_is h (HI2.out.ext hx)))
  by_cases hfine : (b = 2 ∨ b = 3 ∨ b = 5) ∧ n = n2
  · obtain ⟨hb, rfl⟩ := hfine
    have HP := Lib.hid (show pairB b l1 l2 = (validB (pW b l1) && validB (pW b l2)) by
      unfold pairB
      rw [show pbB b = true by rcases hb with rfl | rfl | rfl <;> rfl, decide_eq_true (by rw [HL1.out, HL2.out])]; rfl)
    rw [HP.out]
    generalize validB (pW b l1) = ok1 at HS1 ⊢
    generalize validB (pW b l2) = ok2 at HS2 ⊢
    clear HP
    obtain ⟨q, hq⟩ : ∃ q, q = w.heap.size := ⟨_, rfl⟩
    have HQ := Lib.hid hq
    have hbt : (b == 2 || b == 3 || b == 5) = true := by rcases hb with rfl | rfl | rfl <;> rfl
    rcases hb with rfl | rfl | rfl
    · go_enter Try.func94, Try.ntmps94
      go_upto_region 4 with fail
      rw [← hq]
      obtain ⟨w4, hw4⟩ : ∃ W, W = (((w.alloc (.cells #[.int .i64 0, .int .i64 0, .int .i64 0, .slice none 0 0] 72)).alloc (.cells #[.int .i64 0, .int .i64 0, .int .i64 0, .slice none 0 0] 72)).alloc (.cells #[.int .i64 2, .int .i64 2, .int .i64 0, .slice a n c] 72)).alloc (.cells #[.int .i64 2, .int .i64 2, .int .i64 0, .slice a2 n c2] 72) := ⟨_, rfl⟩
      have hxw4 : Ext w w4 := by rw [hw4]; exact (by repeat (first | (with_reducible exact Ext.refl _) | (with_reducible refine Ext.drewN ?_ _) | (with_reducible refine Ext.drew ?_) | (with_reducible refine Ext.alloc ?_ _) | ((with_reducible refine Ext.setCell ?_ ?_ _); rotate_left; focus (first | (simp; done) | (simp; omega) | omega)) | assumption | (with_reducible refine Ext.trans ?_ (by assumption))))
      have H6 := Lib.hid (show SAt w4 q 72 #[.int .i64 0, .int .i64 0, .int .i64 0, .slice none 0 0] by rw [hw4, hq]; exact (((SAt.new' w _ _ rfl).alloc _).alloc _).alloc _)
      have H7 := Lib.hid (show SAt w4 (q + 1) 72 #[.int .i64 0, .int .i64 0, .int .i64 0, .slice none 0 0] by rw [hw4, hq]; exact ((SAt.new' _ _ _ (by simp)).alloc _).alloc _)
      have H9 := Lib.hid (show SAt w4 (q + 1 + 1) 72 #[.int .i64 2, .int .i64 2, .int .i64 0, .slice a n c] by rw [hw4, hq]; exact (SAt.new' _ _ _ (by simp)).alloc _)
      have H10 := Lib.hid (show SAt w4 (q + 1 + 1 + 1) 72 #[.int .i64 2, .int .i64 2, .int .i64 0, .slice a2 n c2] by rw [hw4, hq]; exact SAt.new' _ _ _ (by simp))
      rw [← hw4]
      have hqw : w.heap.size ≤ q := by omega
      clear hw4 hq
      have m0 : ∀ w', PW2 w q 2 a n c a2 n c2 w' → w'.cell? ⟨q + 1 + 1, 0, none⟩ = some (.int .i64 2) := fun w' h => (pW_rules h.2.1).1
      have m1 : ∀ w', PW2 w q 2 a n c a2 n c2 w' → w'.cell? ⟨q + 1 + 1, 1, none⟩ = some (.int .i64 2) := fun w' h => (pW_rules h.2.1).2.1
      have m2 : ∀ w', PW2 w q 2 a n c a2 n c2 w' → w'.cell? ⟨q + 1 + 1, 2, none⟩ = some (.int .i64 0) := fun w' h => (pW_rules h.2.1).2.2.1
      have m3 : ∀ w', PW2 w q 2 a n c a2 n c2 w' → w'.cell? ⟨q + 1 + 1, 3, none⟩ = some (.slice a n c) := fun w' h => (pW_rules h.2.1).2.2.2
      have nr0 : ∀ w', PW2 w q 2 a n c a2 n c2 w' → w'.cell? ⟨q + 1 + 1 + 1, 0, none⟩ = some (.int .i64 2) := fun w' h => (pW_rules h.2.2).1
      have nr1 : ∀ w', PW2 w q 2 a n c a2 n c2 w' → w'.cell? ⟨q + 1 + 1 + 1, 1, none⟩ = some (.int .i64 2) := fun w' h => (pW_rules h.2.2).2.1
      have nr2 : ∀ w', PW2 w q 2 a n c a2 n c2 w' → w'.cell? ⟨q + 1 + 1 + 1, 2, none⟩ = some (.int .i64 0) := fun w' h => (pW_rules h.2.2).2.2.1
      have nr3 : ∀ w', PW2 w q 2 a n c a2 n c2 w' → w'.cell? ⟨q + 1 + 1 + 1, 3, none⟩ = some (.slice a2 n c2) := fun w' h => (pW_rules h.2.2).2.2.2
      have fr6 := fun j => H6.out.frozen j
      have fr7 := fun j => H7.out.frozen j
      have lt6 := H6.out.lt
      have lt7 := H7.out.lt
      have g0 := H6.out.cell 0 (by simp)
      have g1 := H6.out.cell 1 (by simp)
      have g2 := H6.out.cell 2 (by simp)
      have g3 := H6.out.cell 3 (by simp)
      have h0 := H7.out.cell 0 (by simp)
      have h1 := H7.out.cell 1 (by simp)
      have h2 := H7.out.cell 2 (by simp)
      have h3 := H7.out.cell 3 (by simp)
      simp only [List.getElem_toArray, List.getElem_cons_succ, List.getElem_cons_zero] at g0 g1 g2 g3 h0 h1 h2 h3
      cases ok1
      all_goals go_region_held3 (fun w' => PW2 w q 2 a n c a2 n c2 w') ((exact ⟨(by repeat (first | (with_reducible exact Ext.refl _) | (with_reducible assumption) | (with_reducible refine Ext.drewN ?_ _) | (with_reducible refine Ext.drew ?_) | (with_reducible refine Ext.alloc ?_ _) | ((with_reducible refine Ext.setCell ?_ ?_ _); rotate_left; focus (first | (simp; done) | (simp; omega) | omega)) | (with_reducible refine Ext.trans ?_ (by with_reducible assumption)))), (by repeat (first | (with_reducible exact H9.out) | (with_reducible exact H10.out) | (with_reducible refine SAt.drewN ?_ _) | (with_reducible refine SAt.drew ?_) | ((with_reducible refine SAt.other ?_ _ ?_); rotate_left; focus (simp only; omega)))), (by repeat (first | (with_reducible exact H9.out) | (with_reducible exact H10.out) | (with_reducible refine SAt.drewN ?_ _) | (with_reducible refine SAt.drew ?_) | ((with_reducible refine SAt.other ?_ _ ?_); rotate_left; focus (simp only; omega))))⟩)) ((go_at_call 144; first | ((with_reducible refine (HS1.out _ (q + 1 + 1) (by repeat (first | (with_reducible exact Ext.refl _) | (with_reducible assumption) | (with_reducible refine Ext.drewN ?_ _) | (with_reducible refine Ext.drew ?_) | (with_reducible refine Ext.alloc ?_ _) | ((with_reducible refine Ext.setCell ?_ ?_ _); rotate_left; focus (first | (simp; done) | (simp; omega) | omega)) | (with_reducible refine Ext.trans ?_ (by with_reducible assumption)))) (by repeat (first | (with_reducible exact H9.out) | (with_reducible exact H10.out) | (with_reducible refine SAt.drewN ?_ _) | (with_reducible refine SAt.drew ?_) | ((with_reducible refine SAt.other ?_ _ ?_); rotate_left; focus (simp only; omega))))).mono ?_); rintro e w5 ⟨rfl, k5, rfl⟩) | ((with_reducible refine (HS2.out _ (q + 1 + 1 + 1) (by repeat (first | (with_reducible exact Ext.refl _) | (with_reducible assumption) | (with_reducible refine Ext.drewN ?_ _) | (with_reducible refine Ext.drew ?_) | (with_reducible refine Ext.alloc ?_ _) | ((with_reducible refine Ext.setCell ?_ ?_ _); rotate_left; focus (first | (simp; done) | (simp; omega) | omega)) | (with_reducible refine Ext.trans ?_ (by with_reducible assumption)))) (by repeat (first | (with_reducible exact H9.out) | (with_reducible exact H10.out) | (with_reducible refine SAt.drewN ?_ _) | (with_reducible refine SAt.drew ?_) | ((with_reducible refine SAt.other ?_ _ ?_); rotate_left; focus (simp only; omega))))).mono ?_); rintro e w6 ⟨rfl, k6, rfl⟩)))
      · go_wp2_with fail
        refine bodyPost_ret (v := .tuple #[.agg #[.int .i64 2, .int .i64 2, .int .i64 0, .slice a n c], .agg #[.int .i64 2, .int .i64 2, .int .i64 0, .slice a2 n c2], .bool false]) ?_ rfl ?_
        · simp [results, Try.results94, go_sem, g0, g1, g2, g3, h0, h1, h2, h3]
        · refine ⟨rfl, ?_⟩
          exact (by repeat (first | (with_reducible exact Ext.refl _) | (with_reducible assumption) | (with_reducible refine Ext.drewN ?_ _) | (with_reducible refine Ext.drew ?_) | (with_reducible refine Ext.alloc ?_ _) | ((with_reducible refine Ext.setCell ?_ ?_ _); rotate_left; focus (first | (simp; done) | (simp; omega) | omega)) | (with_reducible refine Ext.trans ?_ (by with_reducible assumption))))
      · go_wp2_with fail
        refine bodyPost_ret (v := .tuple #[.agg #[.int .i64 2, .int .i64 2, .int .i64 0, .slice a n c], .agg #[.int .i64 2, .int .i64 2, .int .i64 0, .slice a2 n c2], .bool ok2]) ?_ rfl ?_
        · simp [results, Try.results94, go_sem, g0, g1, g2, g3, h0, h1, h2, h3]
        · refine ⟨rfl, ?_⟩
          exact (by repeat (first | (with_reducible exact Ext.refl _) | (with_reducible assumption) | (with_reducible refine Ext.drewN ?_ _) | (with_reducible refine Ext.drew ?_) | (with_reducible refine Ext.alloc ?_ _) | ((with_reducible refine Ext.setCell ?_ ?_ _); rotate_left; focus (first | (simp; done) | (simp; omega) | omega)) | (with_reducible refine Ext.trans ?_ (by with_reducible assumption))))
    · go_enter Try.func94, Try.ntmps94
      go_upto_region 4 with fail
      rw [← hq]
      obtain ⟨w4, hw4⟩ : ∃ W, W = (((w.alloc (.cells #[.int .i64 0, .int .i64 0, .int .i64 0, .slice none 0 0] 72)).alloc (.cells #[.int .i64 0, .int .i64 0, .int .i64 0, .slice none 0 0] 72)).alloc (.cells #[.int .i64 3, .int .i64 3, .int .i64 0, .slice a n c] 72)).alloc (.cells #[.int .i64 3, .int .i64 3, .int .i64 0, .slice a2 n c2] 72) := ⟨_, rfl⟩
      have hxw4 : Ext w w4 := by rw [hw4]; exact (by repeat (first | (with_reducible exact Ext.refl _) | (with_reducible refine Ext.drewN ?_ _) | (with_reducible refine Ext.drew ?_) | (with_reducible refine Ext.alloc ?_ _) | ((with_reducible refine Ext.setCell ?_ ?_ _); rotate_left; focus (first | (simp; done) | (simp; omega) | omega)) | assumption | (with_reducible refine Ext.trans ?_ (by assumption))))
      have H6 := Lib.hid (show SAt w4 q 72 #[.int .i64 0, .int .i64 0, .int .i64 0, .slice none 0 0] by rw [hw4, hq]; exact (((SAt.new' w _ _ rfl).alloc _).alloc _).alloc _)
      have H7 := Lib.hid (show SAt w4 (q + 1) 72 #[.int .i64 0, .int .i64 0, .int .i64 0, .slice none 0 0] by rw [hw4, hq]; exact ((SAt.new' _ _ _ (by simp)).alloc _).alloc _)
      have H9 := Lib.hid (show SAt w4 (q + 1 + 1) 72 #[.int .i64 3, .int .i64 3, .int .i64 0, .slice a n c] by rw [hw4, hq]; exact (SAt.new' _ _ _ (by simp)).alloc _)
      have H10 := Lib.hid (show SAt w4 (q + 1 + 1 + 1) 72 #[.int .i64 3, .int .i64 3, .int .i64 0, .slice a2 n c2] by rw [hw4, hq]; exact SAt.new' _ _ _ (by simp))
      rw [← hw4]
      have hqw : w.heap.size ≤ q := by omega
      clear hw4 hq
      have m0 : ∀ w', PW2 w q 3 a n c a2 n c2 w' → w'.cell? ⟨q + 1 + 1, 0, none⟩ = some (.int .i64 3) := fun w' h => (pW_rules h.2.1).1
      have m1 : ∀ w', PW2 w q 3 a n c a2 n c2 w' → w'.cell? ⟨q + 1 + 1, 1, none⟩ = some (.int .i64 3) := fun w' h => (pW_rules h.2.1).2.1
      have m2 : ∀ w', PW2 w q 3 a n c a2 n c2 w' → w'.cell? ⟨q + 1 + 1, 2, none⟩ = some (.int .i64 0) := fun w' h => (pW_rules h.2.1).2.2.1
      have m3 : ∀ w', PW2 w q 3 a n c a2 n c2 w' → w'.cell? ⟨q + 1 + 1, 3, none⟩ = some (.slice a n c) := fun w' h => (pW_rules h.2.1).2.2.2
      have nr0 : ∀ w', PW2 w q 3 a n c a2 n c2 w' → w'.cell? ⟨q + 1 + 1 + 1, 0, none⟩ = some (.int .i64 3) := fun w' h => (pW_rules h.2.2).1
      have nr1 : ∀ w', PW2 w q 3 a n c a2 n c2 w' → w'.cell? ⟨q + 1 + 1 + 1, 1, none⟩ = some (.int .i64 3) := fun w' h => (pW_rules h.2.2).2.1
      have nr2 : ∀ w', PW2 w q 3 a n c a2 n c2 w' → w'.cell? ⟨q + 1 + 1 + 1, 2, none⟩ = some (.int .i64 0) := fun w' h => (pW_rules h.2.2).2.2.1
      have nr3 : ∀ w', PW2 w q 3 a n c a2 n c2 w' → w'.cell? ⟨q + 1 + 1 + 1, 3, none⟩ = some (.slice a2 n c2) := fun w' h => (pW_rules h.2.2).2.2.2
      have fr6 := fun j => H6.out.frozen j
      have fr7 := fun j => H7.out.frozen j
      have lt6 := H6.out.lt
      have lt7 := H7.out.lt
      have g0 := H6.out.cell 0 (by simp)
      have g1 := H6.out.cell 1 (by simp)
      have g2 := H6.out.cell 2 (by simp)
      have g3 := H6.out.cell 3 (by simp)
      have h0 := H7.out.cell 0 (by simp)
      have h1 := H7.out.cell 1 (by simp)
      have h2 := H7.out.cell 2 (by simp)
      have h3 := H7.out.cell 3 (by simp)
      simp only [List.getElem_toArray, List.getElem_cons_succ, List.getElem_cons_zero] at g0 g1 g2 g3 h0 h1 h2 h3
      cases ok1
      all_goals go_region_held3 (fun w' => PW2 w q 3 a n c a2 n c2 w') ((exact ⟨(by repeat (first | (with_reducible exact Ext.refl _) | (with_reducible assumption) | (with_reducible refine Ext.drewN ?_ _) | (with_reducible refine Ext.drew ?_) | (with_reducible refine Ext.alloc ?_ _) | ((with_reducible refine Ext.setCell ?_ ?_ _); rotate_left; focus (first | (simp; done) | (simp; omega) | omega)) | (with_reducible refine Ext.trans ?_ (by with_reducible assumption)))), (by repeat (first | (with_reducible exact H9.out) | (with_reducible exact H10.out) | (with_reducible refine SAt.drewN ?_ _) | (with_reducible refine SAt.drew ?_) | ((with_reducible refine SAt.other ?_ _ ?_); rotate_left; focus (simp only; omega)))), (by repeat (first | (with_reducible exact H9.out) | (with_reducible exact H10.out) | (with_reducible refine SAt.drewN ?_ _) | (with_reducible refine SAt.drew ?_) | ((with_reducible refine SAt.other ?_ _ ?_); rotate_left; focus (simp only; omega))))⟩)) ((go_at_call 144; first | ((with_reducible refine (HS1.out _ (q + 1 + 1) (by repeat (first | (with_reducible exact Ext.refl _) | (with_reducible assumption) | (with_reducible refine Ext.drewN ?_ _) | (with_reducible refine Ext.drew ?_) | (with_reducible refine Ext.alloc ?_ _) | ((with_reducible refine Ext.setCell ?_ ?_ _); rotate_left; focus (first | (simp; done) | (simp; omega) | omega)) | (with_reducible refine Ext.trans ?_ (by with_reducible assumption)))) (by repeat (first | (with_reducible exact H9.out) | (with_reducible exact H10.out) | (with_reducible refine SAt.drewN ?_ _) | (with_reducible refine SAt.drew ?_) | ((with_reducible refine SAt.other ?_ _ ?_); rotate_left; focus (simp only; omega))))).mono ?_); rintro e w5 ⟨rfl, k5, rfl⟩) | ((with_reducible refine (HS2.out _ (q + 1 + 1 + 1) (by repeat (first | (with_reducible exact Ext.refl _) | (with_reducible assumption) | (with_reducible refine Ext.drewN ?_ _) | (with_reducible refine Ext.drew ?_) | (with_reducible refine Ext.alloc ?_ _) | ((with_reducible refine Ext.setCell ?_ ?_ _); rotate_left; focus (first | (simp; done) | (simp; omega) | omega)) | (with_reducible refine Ext.trans ?_ (by with_reducible assumption)))) (by repeat (first | (with_reducible exact H9.out) | (with_reducible exact H10.out) | (with_reducible refine SAt.drewN ?_ _) | (with_reducible refine SAt.drew ?_) | ((with_reducible refine SAt.other ?_ _ ?_); rotate_left; focus (simp only; omega))))).mono ?_); rintro e w6 ⟨rfl, k6, rfl⟩)))
      · go_wp2_with fail
        refine bodyPost_ret (v := .tuple #[.agg #[.int .i64 3, .int .i64 3, .int .i64 0, .slice a n c], .agg #[.int .i64 3, .int .i64 3, .int .i64 0, .slice a2 n c2], .bool false]) ?_ rfl ?_
        · simp [results, Try.results94, go_sem, g0, g1, g2, g3, h0, h1, h2, h3]
        · refine ⟨rfl, ?_⟩
          exact (by repeat (first | (with_reducible exact Ext.refl _) | (with_reducible assumption) | (with_reducible refine Ext.drewN ?_ _) | (with_reducible refine Ext.drew ?_) | (with_reducible refine Ext.alloc ?_ _) | ((with_reducible refine Ext.setCell ?_ ?_ _); rotate_left; focus (first | (simp; done) | (simp; omega) | omega)) | (with_reducible refine Ext.trans ?_ (by with_reducible assumption))))
      · go_wp2_with fail
        refine bodyPost_ret (v := .tuple #[.agg #[.int .i64 3, .int .i64 3, .int .i64 0, .slice a n c], .agg #[.int .i64 3, .int .i64 3, .int .i64 0, .slice a2 n c2], .bool ok2]) ?_ rfl ?_
        · simp [results, Try.results94, go_sem, g0, g1, g2, g3, h0, h1, h2, h3]
        · refine ⟨rfl, ?_⟩
          exact (by repeat (first | (with_reducible exact Ext.refl _) | (with_reducible assumption) | (with_reducible refine Ext.drewN ?_ _) | (with_reducible refine Ext.drew ?_) | (with_reducible refine Ext.alloc ?_ _) | ((with_reducible refine Ext.setCell ?_ ?_ _); rotate_left; focus (first | (simp; done) | (simp; omega) | omega)) | (with_reducible refine Ext.trans ?_ (by with_reducible assumption))))
    · go_enter Try.func94, Try.ntmps94
      go_upto_region 4 with fail
      rw [← hq]
      obtain ⟨w4, hw4⟩ : ∃ W, W = (((w.alloc (.cells #[.int .i64 0, .int .i64 0, .int .i64 0, .slice none 0 0] 72)).alloc (.cells #[.int .i64 0, .int .i64 0, .int .i64 0, .slice none 0 0] 72)).alloc (.cells #[.int .i64 5, .int .i64 5, .int .i64 0, .slice a n c] 72)).alloc (.cells #[.int .i64 5, .int .i64 5, .int .i64 0, .slice a2 n c2] 72) := ⟨_, rfl⟩
      have hxw4 : Ext w w4 := by rw [hw4]; exact (by repeat (first | (with_reducible exact Ext.refl _) | (with_reducible refine Ext.drewN ?_ _) | (with_reducible refine Ext.drew ?_) | (with_reducible refine Ext.alloc ?_ _) | ((with_reducible refine Ext.setCell ?_ ?_ _); rotate_left; focus (first | (simp; done) | (simp; omega) | omega)) | assumption | (with_reducible refine Ext.trans ?_ (by assumption))))
      have H6 := Lib.hid (show SAt w4 q 72 #[.int .i64 0, .int .i64 0, .int .i64 0, .slice none 0 0] by rw [hw4, hq]; exact (((SAt.new' w _ _ rfl).alloc _).alloc _).alloc _)
      have H7 := Lib.hid (show SAt w4 (q + 1) 72 #[.int .i64 0, .int .i64 0, .int .i64 0, .slice none 0 0] by rw [hw4, hq]; exact ((SAt.new' _ _ _ (by simp)).alloc _).alloc _)
      have H9 := Lib.hid (show SAt w4 (q + 1 + 1) 72 #[.int .i64 5, .int .i64 5, .int .i64 0, .slice a n c] by rw [hw4, hq]; exact (SAt.new' _ _ _ (by simp)).alloc _)
      have H10 := Lib.hid (show SAt w4 (q + 1 + 1 + 1) 72 #[.int .i64 5, .int .i64 5, .int .i64 0, .slice a2 n c2] by rw [hw4, hq]; exact SAt.new' _ _ _ (by simp))
      rw [← hw4]
      have hqw : w.heap.size ≤ q := by omega
      clear hw4 hq
      have m0 : ∀ w', PW2 w q 5 a n c a2 n c2 w' → w'.cell? ⟨q + 1 + 1, 0, none⟩ = some (.int .i64 5) := fun w' h => (pW_rules h.2.1).1
      have m1 : ∀ w', PW2 w q 5 a n c a2 n c2 w' → w'.cell? ⟨q + 1 + 1, 1, none⟩ = some (.int .i64 5) := fun w' h => (pW_rules h.2.1).2.1
      have m2 : ∀ w', PW2 w q 5 a n c a2 n c2 w' → w'.cell? ⟨q + 1 + 1, 2, none⟩ = some (.int .i64 0) := fun w' h => (pW_rules h.2.1).2.2.1
      have m3 : ∀ w', PW2 w q 5 a n c a2 n c2 w' → w'.cell? ⟨q + 1 + 1, 3, none⟩ = some (.slice a n c) := fun w' h => (pW_rules h.2.1).2.2.2
      have nr0 : ∀ w', PW2 w q 5 a n c a2 n c2 w' → w'.cell? ⟨q + 1 + 1 + 1, 0, none⟩ = some (.int .i64 5) := fun w' h => (pW_rules h.2.2).1
      have nr1 : ∀ w', PW2 w q 5 a n c a2 n c2 w' → w'.cell? ⟨q + 1 + 1 + 1, 1, none⟩ = some (.int .i64 5) := fun w' h => (pW_rules h.2.2).2.1
      have nr2 : ∀ w', PW2 w q 5 a n c a2 n c2 w' → w'.cell? ⟨q + 1 + 1 + 1, 2, none⟩ = some (.int .i64 0) := fun w' h => (pW_rules h.2.2).2.2.1
      have nr3 : ∀ w', PW2 w q 5 a n c a2 n c2 w' → w'.cell? ⟨q + 1 + 1 + 1, 3, none⟩ = some (.slice a2 n c2) := fun w' h => (pW_rules h.2.2).2.2.2
      have fr6 := fun j => H6.out.frozen j
      have fr7 := fun j => H7.out.frozen j
      have lt6 := H6.out.lt
      have lt7 := H7.out.lt
      have g0 := H6.out.cell 0 (by simp)
      have g1 := H6.out.cell 1 (by simp)
      have g2 := H6.out.cell 2 (by simp)
      have g3 := H6.out.cell 3 (by simp)
      have h0 := H7.out.cell 0 (by simp)
      have h1 := H7.out.cell 1 (by simp)
      have h2 := H7.out.cell 2 (by simp)
      have h3 := H7.out.cell 3 (by simp)
      simp only [List.getElem_toArray, List.getElem_cons_succ, List.getElem_cons_zero] at g0 g1 g2 g3 h0 h1 h2 h3
      cases ok1
      all_goals go_region_held3 (fun w' => PW2 w q 5 a n c a2 n c2 w') ((exact ⟨(by repeat (first | (with_reducible exact Ext.refl _) | (with_reducible assumption) | (with_reducible refine Ext.drewN ?_ _) | (with_reducible refine Ext.drew ?_) | (with_reducible refine Ext.alloc ?_ _) | ((with_reducible refine Ext.setCell ?_ ?_ _); rotate_left; focus (first | (simp; done) | (simp; omega) | omega)) | (with_reducible refine Ext.trans ?_ (by with_reducible assumption)))), (by repeat (first | (with_reducible exact H9.out) | (with_reducible exact H10.out) | (with_reducible refine SAt.drewN ?_ _) | (with_reducible refine SAt.drew ?_) | ((with_reducible refine SAt.other ?_ _ ?_); rotate_left; focus (simp only; omega)))), (by repeat (first | (with_reducible exact H9.out) | (with_reducible exact H10.out) | (with_reducible refine SAt.drewN ?_ _) | (with_reducible refine SAt.drew ?_) | ((with_reducible refine SAt.other ?_ _ ?_); rotate_left; focus (simp only; omega))))⟩)) ((go_at_call 144; first | ((with_reducible refine (HS1.out _ (q + 1 + 1) (by repeat (first | (with_reducible exact Ext.refl _) | (with_reducible assumption) | (with_reducible refine Ext.drewN ?_ _) | (with_reducible refine Ext.drew ?_) | (with_reducible refine Ext.alloc ?_ _) | ((with_reducible refine Ext.setCell ?_ ?_ _); rotate_left; focus (first | (simp; done) | (simp; omega) | omega)) | (with_reducible refine Ext.trans ?_ (by with_reducible assumption)))) (by repeat (first | (with_reducible exact H9.out) | (with_reducible exact H10.out) | (with_reducible refine SAt.drewN ?_ _) | (with_reducible refine SAt.drew ?_) | ((with_reducible refine SAt.other ?_ _ ?_); rotate_left; focus (simp only; omega))))).mono ?_); rintro e w5 ⟨rfl, k5, rfl⟩) | ((with_reducible refine (HS2.out _ (q + 1 + 1 + 1) (by repeat (first | (with_reducible exact Ext.refl _) | (with_reducible assumption) | (with_reducible refine Ext.drewN ?_ _) | (with_reducible refine Ext.drew ?_) | (with_reducible refine Ext.alloc ?_ _) | ((with_reducible refine Ext.setCell ?_ ?_ _); rotate_left; focus (first | (simp; done) | (simp; omega) | omega)) | (with_reducible refine Ext.trans ?_ (by with_reducible assumption)))) (by repeat (first | (with_reducible exact H9.out) | (with_reducible exact H10.out) | (with_reducible refine SAt.drewN ?_ _) | (with_reducible refine SAt.drew ?_) | ((with_reducible refine SAt.other ?_ _ ?_); rotate_left; focus (simp only; omega))))).mono ?_); rintro e w6 ⟨rfl, k6, rfl⟩)))
      · go_wp2_with fail
        refine bodyPost_ret (v := .tuple #[.agg #[.int .i64 5, .int .i64 5, .int .i64 0, .slice a n c], .agg #[.int .i64 5, .int .i64 5, .int .i64 0, .slice a2 n c2], .bool false]) ?_ rfl ?_
        · simp [results, Try.results94, go_sem, g0, g1, g2, g3, h0, h1, h2, h3]
        · refine ⟨rfl, ?_⟩
          exact (by repeat (first | (with_reducible exact Ext.refl _) | (with_reducible assumption) | (with_reducible refine Ext.drewN ?_ _) | (with_reducible refine Ext.drew ?_) | (with_reducible refine Ext.alloc ?_ _) | ((with_reducible refine Ext.setCell ?_ ?_ _); rotate_left; focus (first | (simp; done) | (simp; omega) | omega)) | (with_reducible refine Ext.trans ?_ (by with_reducible assumption))))
      · go_wp2_with fail
        refine bodyPost_ret (v := .tuple #[.agg #[.int .i64 5, .int .i64 5, .int .i64 0, .slice a n c], .agg #[.int .i64 5, .int .i64 5, .int .i64 0, .slice a2 n c2], .bool ok2]) ?_ rfl ?_
        · simp [results, Try.results94, go_sem, g0, g1, g2, g3, h0, h1, h2, h3]
        · refine ⟨rfl, ?_⟩
          exact (by repeat (first | (with_reducible exact Ext.refl _) | (with_reducible assumption) | (with_reducible refine Ext.drewN ?_ _) | (with_reducible refine Ext.drew ?_) | (with_reducible refine Ext.alloc ?_ _) | ((with_reducible refine Ext.setCell ?_ ?_ _); rotate_left; focus (first | (simp; done) | (simp; omega) | omega)) | (with_reducible refine Ext.trans ?_ (by with_reducible assumption))))
  · have HP := Lib.hid (show pairB b l1 l2 = false by
      unfold pairB
      by_cases hb : pbB b = true
      · have := pbB_t hb
        rw [decide_eq_false (by rw [HL1.out, HL2.out]; exact fun h => hfine ⟨this, h⟩), Bool.and_false]; rfl
      · rw [show pbB b = false by simpa using hb]; rfl)
    rw [HP.out]
    obtain ⟨q, hq⟩ : ∃ q, q = w.heap.size := ⟨_, rfl⟩
    have HQ := Lib.hid hq
    by_cases hb : b = 2 ∨ b = 3 ∨ b = 5
    · have hn : n ≠ n2 := fun h => hfine ⟨hb, h⟩
      have hne : ((n : Int) == (n2 : Int)) = false := by simp; omega
      clear HP hfine
      rcases hb with rfl | rfl | rfl
      · go_enter Try.func94, Try.ntmps94
        go_upto_region 4 with fail
        rw [← hq]
        obtain ⟨w4, hw4⟩ : ∃ W, W = (((w.alloc (.cells #[.int .i64 0, .int .i64 0, .int .i64 0, .slice none 0 0] 72)).alloc (.cells #[.int .i64 0, .int .i64 0, .int .i64 0, .slice none 0 0] 72)).alloc (.cells #[.int .i64 2, .int .i64 2, .int .i64 0, .slice a n c] 72)).alloc (.cells #[.int .i64 2, .int .i64 2, .int .i64 0, .slice a2 n2 c2] 72) := ⟨_, rfl⟩
        have hxw4 : Ext w w4 := by rw [hw4]; exact (by repeat (first | (with_reducible exact Ext.refl _) | (with_reducible refine Ext.drewN ?_ _) | (with_reducible refine Ext.drew ?_) | (with_reducible refine Ext.alloc ?_ _) | ((with_reducible refine Ext.setCell ?_ ?_ _); rotate_left; focus (first | (simp; done) | (simp; omega) | omega)) | assumption | (with_reducible refine Ext.trans ?_ (by assumption))))
        have H6 := Lib.hid (show SAt w4 q 72 #[.int .i64 0, .int .i64 0, .int .i64 0, .slice none 0 0] by rw [hw4, hq]; exact (((SAt.new' w _ _ rfl).alloc _).alloc _).alloc _)
        have H7 := Lib.hid (show SAt w4 (q + 1) 72 #[.int .i64 0, .int .i64 0, .int .i64 0, .slice none 0 0] by rw [hw4, hq]; exact ((SAt.new' _ _ _ (by simp)).alloc _).alloc _)
        have H9 := Lib.hid (show SAt w4 (q + 1 + 1) 72 #[.int .i64 2, .int .i64 2, .int .i64 0, .slice a n c] by rw [hw4, hq]; exact (SAt.new' _ _ _ (by simp)).alloc _)
        have H10 := Lib.hid (show SAt w4 (q + 1 + 1 + 1) 72 #[.int .i64 2, .int .i64 2, .int .i64 0, .slice a2 n2 c2] by rw [hw4, hq]; exact SAt.new' _ _ _ (by simp))
        rw [← hw4]
        have hqw : w.heap.size ≤ q := by omega
        clear hw4 hq
        have m0 : ∀ w', PW2 w q 2 a n c a2 n2 c2 w' → w'.cell? ⟨q + 1 + 1, 0, none⟩ = some (.int .i64 2) := fun w' h => (pW_rules h.2.1).1
        have m1 : ∀ w', PW2 w q 2 a n c a2 n2 c2 w' → w'.cell? ⟨q + 1 + 1, 1, none⟩ = some (.int .i64 2) := fun w' h => (pW_rules h.2.1).2.1
        have m2 : ∀ w', PW2 w q 2 a n c a2 n2 c2 w' → w'.cell? ⟨q + 1 + 1, 2, none⟩ = some (.int .i64 0) := fun w' h => (pW_rules h.2.1).2.2.1
        have m3 : ∀ w', PW2 w q 2 a n c a2 n2 c2 w' → w'.cell? ⟨q + 1 + 1, 3, none⟩ = some (.slice a n c) := fun w' h => (pW_rules h.2.1).2.2.2
        have nr0 : ∀ w', PW2 w q 2 a n c a2 n2 c2 w' → w'.cell? ⟨q + 1 + 1 + 1, 0, none⟩ = some (.int .i64 2) := fun w' h => (pW_rules h.2.2).1
        have nr1 : ∀ w', PW2 w q 2 a n c a2 n2 c2 w' → w'.cell? ⟨q + 1 + 1 + 1, 1, none⟩ = some (.int .i64 2) := fun w' h => (pW_rules h.2.2).2.1
        have nr2 : ∀ w', PW2 w q 2 a n c a2 n2 c2 w' → w'.cell? ⟨q + 1 + 1 + 1, 2, none⟩ = some (.int .i64 0) := fun w' h => (pW_rules h.2.2).2.2.1
        have nr3 : ∀ w', PW2 w q 2 a n c a2 n2 c2 w' → w'.cell? ⟨q + 1 + 1 + 1, 3, none⟩ = some (.slice a2 n2 c2) := fun w' h => (pW_rules h.2.2).2.2.2
        have fr6 := fun j => H6.out.frozen j
        have fr7 := fun j => H7.out.frozen j
        have lt6 := H6.out.lt
        have lt7 := H7.out.lt
        have g0 := H6.out.cell 0 (by simp)
        have g1 := H6.out.cell 1 (by simp)
        have g2 := H6.out.cell 2 (by simp)
        have g3 := H6.out.cell 3 (by simp)
        have h0 := H7.out.cell 0 (by simp)
        have h1 := H7.out.cell 1 (by simp)
        have h2 := H7.out.cell 2 (by simp)
        have h3 := H7.out.cell 3 (by simp)
        simp only [List.getElem_toArray, List.getElem_cons_succ, List.getElem_cons_zero] at g0 g1 g2 g3 h0 h1 h2 h3
        go_region_held3 (fun w' => PW2 w q 2 a n c a2 n2 c2 w') ((exact ⟨(by repeat (first | (with_reducible exact Ext.refl _) | (with_reducible assumption) | (with_reducible refine Ext.drewN ?_ _) | (with_reducible refine Ext.drew ?_) | (with_reducible refine Ext.alloc ?_ _) | ((with_reducible refine Ext.setCell ?_ ?_ _); rotate_left; focus (first | (simp; done) | (simp; omega) | omega)) | (with_reducible refine Ext.trans ?_ (by with_reducible assumption)))), (by repeat (first | (with_reducible exact H9.out) | (with_reducible exact H10.out) | (with_reducible refine SAt.drewN ?_ _) | (with_reducible refine SAt.drew ?_) | ((with_reducible refine SAt.other ?_ _ ?_); rotate_left; focus (simp only; omega)))), (by repeat (first | (with_reducible exact H9.out) | (with_reducible exact H10.out) | (with_reducible refine SAt.drewN ?_ _) | (with_reducible refine SAt.drew ?_) | ((with_reducible refine SAt.other ?_ _ ?_); rotate_left; focus (simp only; omega))))⟩)) ((fail))
        go_wp2_with fail
        refine bodyPost_ret (v := .tuple #[.agg #[.int .i64 2, .int .i64 2, .int .i64 0, .slice a n c], .agg #[.int .i64 2, .int .i64 2, .int .i64 0, .slice a2 n2 c2], .bool false]) ?_ rfl ?_
        · simp [results, Try.results94, go_sem, g0, g1, g2, g3, h0, h1, h2, h3]
        · refine ⟨rfl, ?_⟩
          exact (by repeat (first | (with_reducible exact Ext.refl _) | (with_reducible assumption) | (with_reducible refine Ext.drewN ?_ _) | (with_reducible refine Ext.drew ?_) | (with_reducible refine Ext.alloc ?_ _) | ((with_reducible refine Ext.setCell ?_ ?_ _); rotate_left; focus (first | (simp; done) | (simp; omega) | omega)) | (with_reducible refine Ext.trans ?_ (by with_reducible assumption))))
      · go_enter Try.func94, Try.ntmps94
        go_upto_region 4 with fail
        rw [← hq]
        obtain ⟨w4, hw4⟩ : ∃ W, W = (((w.alloc (.cells #[.int .i64 0, .int .i64 0, .int .i64 0, .slice none 0 0] 72)).alloc (.cells #[.int .i64 0, .int .i64 0, .int .i64 0, .slice none 0 0] 72)).alloc (.cells #[.int .i64 3, .int .i64 3, .int .i64 0, .slice a n c] 72)).alloc (.cells #[.int .i64 3, .int .i64 3, .int .i64 0, .slice a2 n2 c2] 72) := ⟨_, rfl⟩
        have hxw4 : Ext w w4 := by rw [hw4]; exact (by repeat (first | (with_reducible exact Ext.refl _) | (with_reducible refine Ext.drewN ?_ _) | (with_reducible refine Ext.drew ?_) | (with_reducible refine Ext.alloc ?_ _) | ((with_reducible refine Ext.setCell ?_ ?_ _); rotate_left; focus (first | (simp; done) | (simp; omega) | omega)) | assumption | (with_reducible refine Ext.trans ?_ (by assumption))))
        have H6 := Lib.hid (show SAt w4 q 72 #[.int .i64 0, .int .i64 0, .int .i64 0, .slice none 0 0] by rw [hw4, hq]; exact (((SAt.new' w _ _ rfl).alloc _).alloc _).alloc _)
        have H7 := Lib.hid (show SAt w4 (q + 1) 72 #[.int .i64 0, .int .i64 0, .int .i64 0, .slice none 0 0] by rw [hw4, hq]; exact ((SAt.new' _ _ _ (by simp)).alloc _).alloc _)
        have H9 := Lib.hid (show SAt w4 (q + 1 + 1) 72 #[.int .i64 3, .int .i64 3, .int .i64 0, .slice a n c] by rw [hw4, hq]; exact (SAt.new' _ _ _ (by simp)).alloc _)
        have H10 := Lib.hid (show SAt w4 (q + 1 + 1 + 1) 72 #[.int .i64 3, .int .i64 3, .int .i64 0, .slice a2 n2 c2] by rw [hw4, hq]; exact SAt.new' _ _ _ (by simp))
        rw [← hw4]
        have hqw : w.heap.size ≤ q := by omega
        clear hw4 hq
        have m0 : ∀ w', PW2 w q 3 a n c a2 n2 c2 w' → w'.cell? ⟨q + 1 + 1, 0, none⟩ = some (.int .i64 3) := fun w' h => (pW_rules h.2.1).1
        have m1 : ∀ w', PW2 w q 3 a n c a2 n2 c2 w' → w'.cell? ⟨q + 1 + 1, 1, none⟩ = some (.int .i64 3) := fun w' h => (pW_rules h.2.1).2.1
        have m2 : ∀ w', PW2 w q 3 a n c a2 n2 c2 w' → w'.cell? ⟨q + 1 + 1, 2, none⟩ = some (.int .i64 0) := fun w' h => (pW_rules h.2.1).2.2.1
        have m3 : ∀ w', PW2 w q 3 a n c a2 n2 c2 w' → w'.cell? ⟨q + 1 + 1, 3, none⟩ = some (.slice a n c) := fun w' h => (pW_rules h.2.1).2.2.2
        have nr0 : ∀ w', PW2 w q 3 a n c a2 n2 c2 w' → w'.cell? ⟨q + 1 + 1 + 1, 0, none⟩ = some (.int .i64 3) := fun w' h => (pW_rules h.2.2).1
        have nr1 : ∀ w', PW2 w q 3 a n c a2 n2 c2 w' → w'.cell? ⟨q + 1 + 1 + 1, 1, none⟩ = some (.int .i64 3) := fun w' h => (pW_rules h.2.2).2.1
        have nr2 : ∀ w', PW2 w q 3 a n c a2 n2 c2 w' → w'.cell? ⟨q + 1 + 1 + 1, 2, none⟩ = some (.int .i64 0) := fun w' h => (pW_rules h.2.2).2.2.1
        have nr3 : ∀ w', PW2 w q 3 a n c a2 n2 c2 w' → w'.cell? ⟨q + 1 + 1 + 1, 3, none⟩ = some (.slice a2 n2 c2) := fun w' h => (pW_rules h.2.2).2.2.2
        have fr6 := fun j => H6.out.frozen j
        have fr7 := fun j => H7.out.frozen j
        have lt6 := H6.out.lt
        have lt7 := H7.out.lt
        have g0 := H6.out.cell 0 (by simp)
        have g1 := H6.out.cell 1 (by simp)
        have g2 := H6.out.cell 2 (by simp)
        have g3 := H6.out.cell 3 (by simp)
        have h0 := H7.out.cell 0 (by simp)
        have h1 := H7.out.cell 1 (by simp)
        have h2 := H7.out.cell 2 (by simp)
        have h3 := H7.out.cell 3 (by simp)
        simp only [List.getElem_toArray, List.getElem_cons_succ, List.getElem_cons_zero] at g0 g1 g2 g3 h0 h1 h2 h3
        go_region_held3 (fun w' => PW2 w q 3 a n c a2 n2 c2 w') ((exact ⟨(by repeat (first | (with_reducible exact Ext.refl _) | (with_reducible assumption) | (with_reducible refine Ext.drewN ?_ _) | (with_reducible refine Ext.drew ?_) | (with_reducible refine Ext.alloc ?_ _) | ((with_reducible refine Ext.setCell ?_ ?_ _); rotate_left; focus (first | (simp; done) | (simp; omega) | omega)) | (with_reducible refine Ext.trans ?_ (by with_reducible assumption)))), (by repeat (first | (with_reducible exact H9.out) | (with_reducible exact H10.out) | (with_reducible refine SAt.drewN ?_ _) | (with_reducible refine SAt.drew ?_) | ((with_reducible refine SAt.other ?_ _ ?_); rotate_left; focus (simp only; omega)))), (by repeat (first | (with_reducible exact H9.out) | (with_reducible exact H10.out) | (with_reducible refine SAt.drewN ?_ _) | (with_reducible refine SAt.drew ?_) | ((with_reducible refine SAt.other ?_ _ ?_); rotate_left; focus (simp only; omega))))⟩)) ((fail))
        go_wp2_with fail
        refine bodyPost_ret (v := .tuple #[.agg #[.int .i64 3, .int .i64 3, .int .i64 0, .slice a n c], .agg #[.int .i64 3, .int .i64 3, .int .i64 0, .slice a2 n2 c2], .bool false]) ?_ rfl ?_
        · simp [results, Try.results94, go_sem, g0, g1, g2, g3, h0, h1, h2, h3]
        · refine ⟨rfl, ?_⟩
          exact (by repeat (first | (with_reducible exact Ext.refl _) | (with_reducible assumption) | (with_reducible refine Ext.drewN ?_ _) | (with_reducible refine Ext.drew ?_) | (with_reducible refine Ext.alloc ?_ _) | ((with_reducible refine Ext.setCell ?_ ?_ _); rotate_left; focus (first | (simp; done) | (simp; omega) | omega)) | (with_reducible refine Ext.trans ?_ (by with_reducible assumption))))
      · go_enter Try.func94, Try.ntmps94
        go_upto_region 4 with fail
        rw [← hq]
        obtain ⟨w4, hw4⟩ : ∃ W, W = (((w.alloc (.cells #[.int .i64 0, .int .i64 0, .int .i64 0, .slice none 0 0] 72)).alloc (.cells #[.int .i64 0, .int .i64 0, .int .i64 0, .slice none 0 0] 72)).alloc (.cells #[.int .i64 5, .int .i64 5, .int .i64 0, .slice a n c] 72)).alloc (.cells #[.int .i64 5, .int .i64 5, .int .i64 0, .slice a2 n2 c2] 72) := ⟨_, rfl⟩
        have hxw4 : Ext w w4 := by rw [hw4]; exact (by repeat (first | (with_reducible exact Ext.refl _) | (with_reducible refine Ext.drewN ?_ _) | (with_reducible refine Ext.drew ?_) | (with_reducible refine Ext.alloc ?_ _) | ((with_reducible refine Ext.setCell ?_ ?_ _); rotate_left; focus (first | (simp; done) | (simp; omega) | omega)) | assumption | (with_reducible refine Ext.trans ?_ (by assumption))))
        have H6 := Lib.hid (show SAt w4 q 72 #[.int .i64 0, .int .i64 0, .int .i64 0, .slice none 0 0] by rw [hw4, hq]; exact (((SAt.new' w _ _ rfl).alloc _).alloc _).alloc _)
        have H7 := Lib.hid (show SAt w4 (q + 1) 72 #[.int .i64 0, .int .i64 0, .int .i64 0, .slice none 0 0] by rw [hw4, hq]; exact ((SAt.new' _ _ _ (by simp)).alloc _).alloc _)
        have H9 := Lib.hid (show SAt w4 (q + 1 + 1) 72 #[.int .i64 5, .int .i64 5, .int .i64 0, .slice a n c] by rw [hw4, hq]; exact (SAt.new' _ _ _ (by simp)).alloc _)
        have H10 := Lib.hid (show SAt w4 (q + 1 + 1 + 1) 72 #[.int .i64 5, .int .i64 5, .int .i64 0, .slice a2 n2 c2] by rw [hw4, hq]; exact SAt.new' _ _ _ (by simp))
        rw [← hw4]
        have hqw : w.heap.size ≤ q := by omega
        clear hw4 hq
        have m0 : ∀ w', PW2 w q 5 a n c a2 n2 c2 w' → w'.cell? ⟨q + 1 + 1, 0, none⟩ = some (.int .i64 5) := fun w' h => (pW_rules h.2.1).1
        have m1 : ∀ w', PW2 w q 5 a n c a2 n2 c2 w' → w'.cell? ⟨q + 1 + 1, 1, none⟩ = some (.int .i64 5) := fun w' h => (pW_rules h.2.1).2.1
        have m2 : ∀ w', PW2 w q 5 a n c a2 n2 c2 w' → w'.cell? ⟨q + 1 + 1, 2, none⟩ = some (.int .i64 0) := fun w' h => (pW_rules h.2.1).2.2.1
        have m3 : ∀ w', PW2 w q 5 a n c a2 n2 c2 w' → w'.cell? ⟨q + 1 + 1, 3, none⟩ = some (.slice a n c) := fun w' h => (pW_rules h.2.1).2.2.2
        have nr0 : ∀ w', PW2 w q 5 a n c a2 n2 c2 w' → w'.cell? ⟨q + 1 + 1 + 1, 0, none⟩ = some (.int .i64 5) := fun w' h => (pW_rules h.2.2).1
        have nr1 : ∀ w', PW2 w q 5 a n c a2 n2 c2 w' → w'.cell? ⟨q + 1 + 1 + 1, 1, none⟩ = some (.int .i64 5) := fun w' h => (pW_rules h.2.2).2.1
        have nr2 : ∀ w', PW2 w q 5 a n c a2 n2 c2 w' → w'.cell? ⟨q + 1 + 1 + 1, 2, none⟩ = some (.int .i64 0) := fun w' h => (pW_rules h.2.2).2.2.1
        have nr3 : ∀ w', PW2 w q 5 a n c a2 n2 c2 w' → w'.cell? ⟨q + 1 + 1 + 1, 3, none⟩ = some (.slice a2 n2 c2) := fun w' h => (pW_rules h.2.2).2.2.2
        have fr6 := fun j => H6.out.frozen j
        have fr7 := fun j => H7.out.frozen j
        have lt6 := H6.out.lt
        have lt7 := H7.out.lt
        have g0 := H6.out.cell 0 (by simp)
        have g1 := H6.out.cell 1 (by simp)
        have g2 := H6.out.cell 2 (by simp)
        have g3 := H6.out.cell 3 (by simp)
        have h0 := H7.out.cell 0 (by simp)
        have h1 := H7.out.cell 1 (by simp)
        have h2 := H7.out.cell 2 (by simp)
        have h3 := H7.out.cell 3 (by simp)
        simp only [List.getElem_toArray, List.getElem_cons_succ, List.getElem_cons_zero] at g0 g1 g2 g3 h0 h1 h2 h3
        go_region_held3 (fun w' => PW2 w q 5 a n c a2 n2 c2 w') ((exact ⟨(by repeat (first | (with_reducible exact Ext.refl _) | (with_reducible assumption) | (with_reducible refine Ext.drewN ?_ _) | (with_reducible refine Ext.drew ?_) | (with_reducible refine Ext.alloc ?_ _) | ((with_reducible refine Ext.setCell ?_ ?_ _); rotate_left; focus (first | (simp; done) | (simp; omega) | omega)) | (with_reducible refine Ext.trans ?_ (by with_reducible assumption)))), (by repeat (first | (with_reducible exact H9.out) | (with_reducible exact H10.out) | (with_reducible refine SAt.drewN ?_ _) | (with_reducible refine SAt.drew ?_) | ((with_reducible refine SAt.other ?_ _ ?_); rotate_left; focus (simp only; omega)))), (by repeat (first | (with_reducible exact H9.out) | (with_reducible exact H10.out) | (with_reducible refine SAt.drewN ?_ _) | (with_reducible refine SAt.drew ?_) | ((with_reducible refine SAt.other ?_ _ ?_); rotate_left; focus (simp only; omega))))⟩)) ((fail))
        go_wp2_with fail
        refine bodyPost_ret (v := .tuple #[.agg #[.int .i64 5, .int .i64 5, .int .i64 0, .slice a n c], .agg #[.int .i64 5, .int .i64 5, .int .i64 0, .slice a2 n2 c2], .bool false]) ?_ rfl ?_
        · simp [results, Try.results94, go_sem, g0, g1, g2, g3, h0, h1, h2, h3]
        · refine ⟨rfl, ?_⟩
          exact (by repeat (first | (with_reducible exact Ext.refl _) | (with_reducible assumption) | (with_reducible refine Ext.drewN ?_ _) | (with_reducible refine Ext.drew ?_) | (with_reducible refine Ext.alloc ?_ _) | ((with_reducible refine Ext.setCell ?_ ?_ _); rotate_left; focus (first | (simp; done) | (simp; omega) | omega)) | (with_reducible refine Ext.trans ?_ (by with_reducible assumption))))
    · have e2 : (b == 2) = false := by simp; omega
      have e3 : (b == 3) = false := by simp; omega
      have e5 : (b == 5) = false := by simp; omega
      clear HP hfine
      go_enter Try.func94, Try.ntmps94
      go_upto_region 4 with fail
      rw [← hq]
      obtain ⟨w4, hw4⟩ : ∃ W, W = (((w.alloc (.cells #[.int .i64 0, .int .i64 0, .int .i64 0, .slice none 0 0] 72)).alloc (.cells #[.int .i64 0, .int .i64 0, .int .i64 0, .slice none 0 0] 72)).alloc (.cells #[.int .i64 b, .int .i64 b, .int .i64 0, .slice a n c] 72)).alloc (.cells #[.int .i64 b, .int .i64 b, .int .i64 0, .slice a2 n2 c2] 72) := ⟨_, rfl⟩
      have hxw4 : Ext w w4 := by rw [hw4]; exact (by repeat (first | (with_reducible exact Ext.refl _) | (with_reducible refine Ext.drewN ?_ _) | (with_reducible refine Ext.drew ?_) | (with_reducible refine Ext.alloc ?_ _) | ((with_reducible refine Ext.setCell ?_ ?_ _); rotate_left; focus (first | (simp; done) | (simp; omega) | omega)) | assumption | (with_reducible refine Ext.trans ?_ (by assumption))))
      have H6 := Lib.hid (show SAt w4 q 72 #[.int .i64 0, .int .i64 0, .int .i64 0, .slice none 0 0] by rw [hw4, hq]; exact (((SAt.new' w _ _ rfl).alloc _).alloc _).alloc _)
      have H7 := Lib.hid (show SAt w4 (q + 1) 72 #[.int .i64 0, .int .i64 0, .int .i64 0, .slice none 0 0] by rw [hw4, hq]; exact ((SAt.new' _ _ _ (by simp)).alloc _).alloc _)
      have H9 := Lib.hid (show SAt w4 (q + 1 + 1) 72 #[.int .i64 b, .int .i64 b, .int .i64 0, .slice a n c] by rw [hw4, hq]; exact (SAt.new' _ _ _ (by simp)).alloc _)
      have H10 := Lib.hid (show SAt w4 (q + 1 + 1 + 1) 72 #[.int .i64 b, .int .i64 b, .int .i64 0, .slice a2 n2 c2] by rw [hw4, hq]; exact SAt.new' _ _ _ (by simp))
      rw [← hw4]
      have hqw : w.heap.size ≤ q := by omega
      clear hw4 hq
      have m0 : ∀ w', PW2 w q b a n c a2 n2 c2 w' → w'.cell? ⟨q + 1 + 1, 0, none⟩ = some (.int .i64 b) := fun w' h => (pW_rules h.2.1).1
      have m1 : ∀ w', PW2 w q b a n c a2 n2 c2 w' → w'.cell? ⟨q + 1 + 1, 1, none⟩ = some (.int .i64 b) := fun w' h => (pW_rules h.2.1).2.1
      have m2 : ∀ w', PW2 w q b a n c a2 n2 c2 w' → w'.cell? ⟨q + 1 + 1, 2, none⟩ = some (.int .i64 0) := fun w' h => (pW_rules h.2.1).2.2.1
      have m3 : ∀ w', PW2 w q b a n c a2 n2 c2 w' → w'.cell? ⟨q + 1 + 1, 3, none⟩ = some (.slice a n c) := fun w' h => (pW_rules h.2.1).2.2.2
      have nr0 : ∀ w', PW2 w q b a n c a2 n2 c2 w' → w'.cell? ⟨q + 1 + 1 + 1, 0, none⟩ = some (.int .i64 b) := fun w' h => (pW_rules h.2.2).1
      have nr1 : ∀ w', PW2 w q b a n c a2 n2 c2 w' → w'.cell? ⟨q + 1 + 1 + 1, 1, none⟩ = some (.int .i64 b) := fun w' h => (pW_rules h.2.2).2.1
      have nr2 : ∀ w', PW2 w q b a n c a2 n2 c2 w' → w'.cell? ⟨q + 1 + 1 + 1, 2, none⟩ = some (.int .i64 0) := fun w' h => (pW_rules h.2.2).2.2.1
      have nr3 : ∀ w', PW2 w q b a n c a2 n2 c2 w' → w'.cell? ⟨q + 1 + 1 + 1, 3, none⟩ = some (.slice a2 n2 c2) := fun w' h => (pW_rules h.2.2).2.2.2
      have fr6 := fun j => H6.out.frozen j
      have fr7 := fun j => H7.out.frozen j
      have lt6 := H6.out.lt
      have lt7 := H7.out.lt
      have g0 := H6.out.cell 0 (by simp)
      have g1 := H6.out.cell 1 (by simp)
      have g2 := H6.out.cell 2 (by simp)
      have g3 := H6.out.cell 3 (by simp)
      have h0 := H7.out.cell 0 (by simp)
      have h1 := H7.out.cell 1 (by simp)
      have h2 := H7.out.cell 2 (by simp)
      have h3 := H7.out.cell 3 (by simp)
      simp only [List.getElem_toArray, List.getElem_cons_succ, List.getElem_cons_zero] at g0 g1 g2 g3 h0 h1 h2 h3
      go_region_held3 (fun w' => PW2 w q b a n c a2 n2 c2 w') ((exact ⟨(by repeat (first | (with_reducible exact Ext.refl _) | (with_reducible assumption) | (with_reducible refine Ext.drewN ?_ _) | (with_reducible refine Ext.drew ?_) | (with_reducible refine Ext.alloc ?_ _) | ((with_reducible refine Ext.setCell ?_ ?_ _); rotate_left; focus (first | (simp; done) | (simp; omega) | omega)) | (with_reducible refine Ext.trans ?_ (by with_reducible assumption)))), (by repeat (first | (with_reducible exact H9.out) | (with_reducible exact H10.out) | (with_reducible refine SAt.drewN ?_ _) | (with_reducible refine SAt.drew ?_) | ((with_reducible refine SAt.other ?_ _ ?_); rotate_left; focus (simp only; omega)))), (by repeat (first | (with_reducible exact H9.out) | (with_reducible exact H10.out) | (with_reducible refine SAt.drewN ?_ _) | (with_reducible refine SAt.drew ?_) | ((with_reducible refine SAt.other ?_ _ ?_); rotate_left; focus (simp only; omega))))⟩)) ((fail))
      go_wp2_with fail
      refine bodyPost_ret (v := .tuple #[.agg #[.int .i64 b, .int .i64 b, .int .i64 0, .slice a n c], .agg #[.int .i64 b, .int .i64 b, .int .i64 0, .slice a2 n2 c2], .bool false]) ?_ rfl ?_
      · simp [results, Try.results94, go_sem, g0, g1, g2, g3, h0, h1, h2, h3]
      · refine ⟨rfl, ?_⟩
        exact (by repeat (first | (with_reducible exact Ext.refl _) | (with_reducible assumption) | (with_reducible refine Ext.drewN ?_ _) | (with_reducible refine Ext.drew ?_) | (with_reducible refine Ext.alloc ?_ _) | ((with_reducible refine Ext.setCell ?_ ?_ _); rotate_left; focus (first | (simp; done) | (simp; omega) | omega)) | (with_reducible refine Ext.trans ?_ (by with_reducible assumption))))
end Go.Proofs.Ytaiieodllhoelaa

/- Walks: the chain of a pair of weightings, in the reference: the chain. -/
namespace Go.Proofs.Ytaiieodllhoelaa
set_option maxRecDepth 100000
open Go.RowKit

set_option maxHeartbeats 4000000 in
theorem spec_PairChain (b : Int) (a : Option Addr) (n c : Nat) (l1 : List Int) (a2 : Option Addr) (n2 c2 : Nat) (l2 : List Int) (w : World) (h1 : Ints w a n c l1) (h2 : Ints w a2 n2 c2 l2) :
    Calls Try.prog 36 #[.int .i64 b, .slice a n c, .slice a2 n2 c2] w (RetChK (pairCh b l1 l2) (pairB b l1 l2) w) := by
  have HI1 := Lib.hid h1
  have HI2 := Lib.hid h2
  have HPr := Lib.hid (fun W (h : Ext w W) => spec_l09Pair b a n c l1 a2 n2 c2 l2 W (h1.ext h) (h2.ext h))
  clear h1 h2
  cases hok : pairB b l1 l2
  · rw [hok] at HPr
    have HNo := Lib.hid (show pairCh b l1 l2 = zCh by unfold pairCh; rw [hok]; rfl)
    rw [HNo.out]
    clear hok
    obtain ⟨q, hq⟩ : ∃ q, q = w.heap.size := ⟨_, rfl⟩
    have hqw : w.heap.size ≤ q := by omega
    go_enter Try.func36, Try.ntmps36
    obtain ⟨wz, hwz⟩ : ∃ W, W = w.alloc (.cells #[.int .i64 0, .int .i64 0, .int .i64 0, .int .i64 0, .slice none 0 0, .slice none 0 0] 27) := ⟨_, rfl⟩
    have hxz : Ext w wz := by rw [hwz]; exact (by repeat (first | (with_reducible exact Ext.refl _) | (with_reducible refine Ext.drewN ?_ _) | (with_reducible refine Ext.drew ?_) | (with_reducible refine Ext.alloc ?_ _) | ((with_reducible refine Ext.setCell ?_ ?_ _); rotate_left; focus (first | (simp; done) | (simp; omega) | omega)) | assumption | (with_reducible refine Ext.trans ?_ (by assumption))))
    have HZ := Lib.hid (show SAt wz q 27 #[.int .i64 0, .int .i64 0, .int .i64 0, .int .i64 0, .slice none 0 0, .slice none 0 0] from by rw [hwz, hq]; exact SAt.new' _ _ _ rfl)
    go_wp2_with fail
    rw [← hwz, ← hq]
    clear hwz hq
    go_upto_region 2 with ((with_reducible refine (HPr.out _ hxz).mono ?_); rintro e w1 ⟨rfl, hy1⟩; have hx1 : Ext wz w1 := hy1; clear hy1)
    obtain ⟨q8, hq8⟩ : ∃ x, x = w1.heap.size := ⟨_, rfl⟩
    obtain ⟨w3, hw3⟩ : ∃ W, W = (w1.alloc (.cells #[.int .i64 b, .int .i64 b, .int .i64 0, .slice a n c] 72)).alloc (.cells #[.int .i64 b, .int .i64 b, .int .i64 0, .slice a2 n2 c2] 72) := ⟨_, rfl⟩
    have hx13 : Ext w1 w3 := by rw [hw3]; exact (by repeat (first | (with_reducible exact Ext.refl _) | (with_reducible refine Ext.drewN ?_ _) | (with_reducible refine Ext.drew ?_) | (with_reducible refine Ext.alloc ?_ _) | ((with_reducible refine Ext.setCell ?_ ?_ _); rotate_left; focus (first | (simp; done) | (simp; omega) | omega)) | assumption | (with_reducible refine Ext.trans ?_ (by assumption))))
    have hxw3 : Ext w w3 := hxz.trans (hx1.trans hx13)
    have HZ3 := Lib.hid (HZ.out.ext (hx1.trans hx13))
    have HS8 := Lib.hid (show SAt w3 q8 72 #[.int .i64 b, .int .i64 b, .int .i64 0, .slice a n c] by rw [hw3, hq8]; exact (SAt.new' _ _ _ rfl).alloc _)
    have HS9 := Lib.hid (show SAt w3 (q8 + 1) 72 #[.int .i64 b, .int .i64 b, .int .i64 0, .slice a2 n2 c2] by rw [hw3, hq8]; exact SAt.new' _ _ _ (by simp))
    rw [← hq8, ← hw3]
    clear hw3 hq8 hx13
    have z0 := HZ3.out.cell 0 (by simp)
    have z1 := HZ3.out.cell 1 (by simp)
    have z2 := HZ3.out.cell 2 (by simp)
    have z3 := HZ3.out.cell 3 (by simp)
    have z4 := HZ3.out.cell 4 (by simp)
    have z5 := HZ3.out.cell 5 (by simp)
    have fr := fun j => HZ3.out.frozen j
    have hltz := HZ3.out.lt
    try simp only [List.getElem_toArray, List.getElem_cons_succ, List.getElem_cons_zero] at z0 z1 z2 z3 z4 z5
    go_wp2_with fail
    refine bodyPost_ret (v := .tuple #[.agg #[.int .i64 0, .int .i64 0, .int .i64 0, .int .i64 0, .slice none 0 0, .slice none 0 0], .bool false]) ?_ rfl ?_
    · simp [results, Try.results36, go_sem, z0, z1, z2, z3, z4, z5]
    · refine ⟨none, 0, 0, none, 0, 0, rfl, zCh_in _, ?_⟩
      repeat (first | with_reducible exact hxw3 | with_reducible refine Ext.setCell ?_ hqw _)
  · rw [hok] at HPr
    have hfit := pair_fit hok
    have hvv : validB (pW b l1) = true ∧ validB (pW b l2) = true := by unfold pairB at hok; simp only [Bool.and_eq_true] at hok; exact hok.2
    have HCh := Lib.hid (show pairCh b l1 l2 = joinCh (wtCh (pW b l1)) (wtCh (pW b l2)) by unfold pairCh; rw [if_pos hok])
    have hv1 : validCh (wtCh (pW b l1)) = true := addCh_valid (validB_addOk hvv.1)
    have hv2 : validCh (wtCh (pW b l2)) = true := addCh_valid (validB_addOk hvv.2)
    have HW := Lib.hid (fun W q (h : IsWt W q (pW b l1) a n c) => spec_l03Weights q (pW b l1) a n c W h hvv.1)
    have HW2 := Lib.hid (fun W q (h : IsWt W q (pW b l2) a2 n2 c2) => spec_l03Weights q (pW b l2) a2 n2 c2 W h hvv.2)
    have HFit := Lib.hid hfit
    have HV1 := Lib.hid hv1
    have HV2 := Lib.hid hv2
    rw [HCh.out]
    clear hok hfit hvv hv1 hv2
    generalize hD1 : wtCh (pW b l1) = D1 at *
    generalize hD2 : wtCh (pW b l2) = D2 at *
    clear hD1 hD2
    obtain ⟨DD, hDD⟩ : ∃ x, x = joinCh D1 D2 := ⟨_, rfl⟩
    have HDD := Lib.hid hDD
    rw [← hDD]
    clear hDD
    obtain ⟨q, hq⟩ : ∃ q, q = w.heap.size := ⟨_, rfl⟩
    have hqw : w.heap.size ≤ q := by omega
    go_enter Try.func36, Try.ntmps36
    obtain ⟨wz, hwz⟩ : ∃ W, W = w.alloc (.cells #[.int .i64 0, .int .i64 0, .int .i64 0, .int .i64 0, .slice none 0 0, .slice none 0 0] 27) := ⟨_, rfl⟩
    have hxz : Ext w wz := by rw [hwz]; exact (by repeat (first | (with_reducible exact Ext.refl _) | (with_reducible refine Ext.drewN ?_ _) | (with_reducible refine Ext.drew ?_) | (with_reducible refine Ext.alloc ?_ _) | ((with_reducible refine Ext.setCell ?_ ?_ _); rotate_left; focus (first | (simp; done) | (simp; omega) | omega)) | assumption | (with_reducible refine Ext.trans ?_ (by assumption))))
    have HZ := Lib.hid (show SAt wz q 27 #[.int .i64 0, .int .i64 0, .int .i64 0, .int .i64 0, .slice none 0 0, .slice none 0 0] from by rw [hwz, hq]; exact SAt.new' _ _ _ rfl)
    go_wp2_with fail
    rw [← hwz, ← hq]
    clear hwz hq
    go_upto_region 2 with ((with_reducible refine (HPr.out _ hxz).mono ?_); rintro e w1 ⟨rfl, hy1⟩; have hx1 : Ext wz w1 := hy1; clear hy1)
    obtain ⟨q8, hq8⟩ : ∃ x, x = w1.heap.size := ⟨_, rfl⟩
    obtain ⟨w3, hw3⟩ : ∃ W, W = (w1.alloc (.cells #[.int .i64 b, .int .i64 b, .int .i64 0, .slice a n c] 72)).alloc (.cells #[.int .i64 b, .int .i64 b, .int .i64 0, .slice a2 n2 c2] 72) := ⟨_, rfl⟩
    have hx13 : Ext w1 w3 := by rw [hw3]; exact (by repeat (first | (with_reducible exact Ext.refl _) | (with_reducible refine Ext.drewN ?_ _) | (with_reducible refine Ext.drew ?_) | (with_reducible refine Ext.alloc ?_ _) | ((with_reducible refine Ext.setCell ?_ ?_ _); rotate_left; focus (first | (simp; done) | (simp; omega) | omega)) | assumption | (with_reducible refine Ext.trans ?_ (by assumption))))
    have hxw3 : Ext w w3 := hxz.trans (hx1.trans hx13)
    have HZ3 := Lib.hid (HZ.out.ext (hx1.trans hx13))
    have HS8 := Lib.hid (show SAt w3 q8 72 #[.int .i64 b, .int .i64 b, .int .i64 0, .slice a n c] by rw [hw3, hq8]; exact (SAt.new' _ _ _ rfl).alloc _)
    have HS9 := Lib.hid (show SAt w3 (q8 + 1) 72 #[.int .i64 b, .int .i64 b, .int .i64 0, .slice a2 n2 c2] by rw [hw3, hq8]; exact SAt.new' _ _ _ (by simp))
    rw [← hq8, ← hw3]
    clear hw3 hq8 hx13
    have hq3 := HZ3.out.lt
    have HA8 := Lib.hid (pW_is HS8.out (HI1.out.ext hxw3))
    have HA9 := Lib.hid (pW_is HS9.out (HI2.out.ext hxw3))
    go_wp2_with (first | (go_at_call 96; first | ((with_reducible refine (HW.out _ q8 HA8.out).mono ?_); rintro e w4 ⟨a4, x4, c4, b4, y4, d4, rfl, hch4, hy4⟩; have HC4 := Lib.hid (hch4 _ (KeepB.refl _ _ _)); have HA9' := Lib.hid (HA9.out.ext hy4); have hx4 : Ext w3 w4 := hy4; clear hch4 hy4) | ((with_reducible refine (HW2.out _ (q8 + 1) HA9'.out).mono ?_); rintro e w5 ⟨a5, x5, c5, b5, y5, d5, rfl, hch5, hy5⟩; have HC5 := Lib.hid (hch5 _ (KeepB.refl _ _ _)); have HC4' := Lib.hid (HC4.out.ext hy5); have hx5 : Ext w3 w5 := hx4.trans hy5; have hyy : y5 = y4 := (by have h1 := HC4.out.ps.len; have h2 := HC5.out.ps.len; have h3 := HFit.out.l; omega); subst hyy; clear hch5 hy5)) | (go_at_call 95; (with_reducible refine (spec_JoinYes D1 D2 _ _ _ _ _ _ _ _ _ _ _ _ HC4'.out HC5.out HFit.out HV1.out HV2.out).mono ?_); rintro e w9 ⟨a9, x9, c9, b9, y9, d9, rfl, hch9, hy9⟩; rw [← HDD.out] at hch9 ⊢; have hle9 : w3.heap.size ≤ w5.heap.size := hx5.le; have HC9 := Lib.hid hch9; have hx9 : Ext w3 w9 := hx5.trans hy9; have HZ9 := Lib.hid (HZ3.out.ext hx9); have g0 := HZ9.out.cell 0 (by simp); have g1 := HZ9.out.cell 1 (by simp); have g2 := HZ9.out.cell 2 (by simp); have g3 := HZ9.out.cell 3 (by simp); have g4 := HZ9.out.cell 4 (by simp); have g5 := HZ9.out.cell 5 (by simp); have fr9 := fun j => HZ9.out.frozen j; have lt9 := HZ9.out.lt; (try simp only [List.getElem_toArray, List.getElem_cons_succ, List.getElem_cons_zero] at g0 g1 g2 g3 g4 g5); clear hch9 hy9))
    refine bodyPost_ret (v := .tuple #[.agg #[.int .i64 DD.base, .int .i64 DD.states, .int .i64 DD.start, .int .i64 DD.fin, .slice a9 x9 c9, .slice b9 y9 d9], .bool true]) ?_ rfl ?_
    · simp [results, Try.results36, go_sem, g0, g1, g2, g3, g4, g5]
    · have hfin : ∀ W, KeepB w5.heap.size w9.heap.size w9 W → Ext w W → RetChK DD true w (.returned (.tuple #[.agg #[.int .i64 DD.base, .int .i64 DD.states, .int .i64 DD.start, .int .i64 DD.fin, .slice a9 x9 c9, .slice b9 y9 d9], .bool true])) W := fun W hk hx =>
        ⟨a9, x9, c9, b9, y9, d9, rfl, HC9.out W hk, hx⟩
      have hq5 : q < w5.heap.size := by omega
      have hxw9 : Ext w w9 := hxw3.trans hx9
      refine hfin _ ?_ ?_
      · repeat (first | with_reducible exact KeepB.refl _ _ _ | (with_reducible refine KeepB.setB ?_ _ _ (Or.inl ?_); rotate_left; (focus (simp only; omega))))
      · repeat (first | with_reducible exact hxw9 | with_reducible refine Ext.setCell ?_ hqw _)
end Go.Proofs.Ytaiieodllhoelaa
