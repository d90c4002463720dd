/- Walks: the chain of a pair of weightings, in the reference. -/
import Derived.Test.YtaiieodllhoelaaPaiC
import Derived.Test.YtaiieodllhoelaaSpJ
import Derived.Test.YtaiieodllhoelaaPaDi
import Derived.Test.YtaiieodllhoelaaReac
import Derived.Deep.RegionHeld3
import Derived.Deep.CutRange
namespace Go.Proofs.Ytaiieodllhoelaa
set_option maxRecDepth 100000
open Go.RowKit

theorem SAt.drewN {w : World} {g : Nat} {T : TypeId} {cs : Array Value} (h : SAt w g T cs) (k : Nat) : SAt (w.drewN k) g T cs := h
theorem pW_rules {w : World} {q : Nat} {T : TypeId} {b : Int} {a : Option Addr} {n c : Nat} (h : SAt w q T #[.int .i64 b, .int .i64 b, .int .i64 0, .slice a n c]) :
    w.cell? ⟨q, 0, none⟩ = some (.int .i64 b) ∧ w.cell? ⟨q, 1, none⟩ = some (.int .i64 b) ∧ w.cell? ⟨q, 2, none⟩ = some (.int .i64 0) ∧ w.cell? ⟨q, 3, none⟩ = some (.slice a n c) :=
  ⟨h.cell 0 (by simp), h.cell 1 (by simp), h.cell 2 (by simp), h.cell 3 (by simp)⟩
theorem pW_is {w : World} {q : Nat} {T : TypeId} {b : Int} {a : Option Addr} {n c : Nat} {l : List Int} (h : SAt w q T #[.int .i64 b, .int .i64 b, .int .i64 0, .slice a n c]) (hi : Ints w a n c l) : IsWt w q (pW b l) a n c :=
  let ⟨h0, h1, h2, h3⟩ := pW_rules h; ⟨h0, h1, h2, h3, hi⟩
/-- both weightings lie there -/
def PW2 (w : World) (q : Nat) (b : Int) (a : Option Addr) (n c : Nat) (a2 : Option Addr) (n2 c2 : Nat) (w' : World) : Prop :=
  Ext w w' ∧ SAt w' (q + 1 + 1) 72 #[.int .i64 b, .int .i64 b, .int .i64 0, .slice a n c] ∧ SAt w' (q + 1 + 1 + 1) 72 #[.int .i64 b, .int .i64 b, .int .i64 0, .slice a2 n2 c2]
set_option maxHeartbeats 4000000 in
theorem spec_l09Pair (b : Int) (a : Option Addr) (n c : Nat) (l1 : List Int) (a2 : Option Addr) (n2 c2 : Nat) (l2 : List Int) (w : World) (h1 : Ints w a n c l1) (h2 : Ints w a2 n2 c2 l2) :
    Calls Try.prog 94 #[.int .i64 b, .slice a n c, .slice a2 n2 c2] w (Ret3 (.agg #[.int .i64 b, .int .i64 b, .int .i64 0, .slice a n c]) (.agg #[.int .i64 b, .int .i64 b, .int .i64 0, .slice a2 n2 c2]) (.bool (pairB b l1 l2)) w) := by
  have HL1 := Lib.hid h1.len
  have HL2 := Lib.hid h2.len
  have HI1 := Lib.hid h1
  have HI2 := Lib.hid h2
  clear h1 h2
  have HS1 := Lib.hid (fun W q (hx : Ext w W) (h : SAt W q 72 #[.int .i64 b, .int .i64 b, .int .i64 0, .slice a n c]) => spec_is q (pW b l1) a n c W (pW_is h (HI1.out.ext hx)))
  have HS2 := Lib.hid (fun W q (hx : Ext w W) (h : SAt W q 72 #[.int .i64 b, .int .i64 b, .int .i64 0, .slice a2 n2 c2]) => spec_is q (pW b l2) a2 n2 c2 W (pW_is h (HI2.out.ext hx)))
  by_cases hfine : (b = 2 ∨ b = 3 ∨ b = 5) ∧ n = n2
  · obtain ⟨hb, rfl⟩ := hfine
    have HP := Lib.hid (show pairB b l1 l2 = (validB (pW b l1) && validB (pW b l2)) by
      unfold pairB
      rw [show pbB b = true by rcases hb with rfl | rfl | rfl <;> rfl, decide_eq_true (by rw [HL1.out, HL2.out])]; rfl)
    rw [HP.out]
    generalize validB (pW b l1) = ok1 at HS1 ⊢
    generalize validB (pW b l2) = ok2 at HS2 ⊢
    clear HP
    obtain ⟨q, hq⟩ : ∃ q, q = w.heap.size := ⟨_, rfl⟩
    have HQ := Lib.hid hq
    have hbt : (b == 2 || b == 3 || b == 5) = true := by rcases hb with rfl | rfl | rfl <;> rfl
    rcases hb with rfl | rfl | rfl
    · go_enter Try.func94, Try.ntmps94
      go_upto_region 4 with fail
      rw [← hq]
      obtain ⟨w4, hw4⟩ : ∃ W, W = (((w.alloc (.cells #[.int .i64 0, .int .i64 0, .int .i64 0, .slice none 0 0] 72)).alloc (.cells #[.int .i64 0, .int .i64 0, .int .i64 0, .slice none 0 0] 72)).alloc (.cells #[.int .i64 2, .int .i64 2, .int .i64 0, .slice a n c] 72)).alloc (.cells #[.int .i64 2, .int .i64 2, .int .i64 0, .slice a2 n c2] 72) := ⟨_, rfl⟩
      have hxw4 : Ext w w4 := by rw [hw4]; exact (by repeat (first | (with_reducible exact Ext.refl _) | (with_reducible refine Ext.drewN ?_ _) | (with_reducible refine Ext.drew ?_) | (with_reducible refine Ext.alloc ?_ _) | ((with_reducible refine Ext.setCell ?_ ?_ _); rotate_left; focus (first | (simp; done) | (simp; omega) | omega)) | assumption | (with_reducible refine Ext.trans ?_ (by assumption))))
      have H6 := Lib.hid (show SAt w4 q 72 #[.int .i64 0, .int .i64 0, .int .i64 0, .slice none 0 0] by rw [hw4, hq]; exact (((SAt.new' w _ _ rfl).alloc _).alloc _).alloc _)
      have H7 := Lib.hid (show SAt w4 (q + 1) 72 #[.int .i64 0, .int .i64 0, .int .i64 0, .slice none 0 0] by rw [hw4, hq]; exact ((SAt.new' _ _ _ (by simp)).alloc _).alloc _)
      have H9 := Lib.hid (show SAt w4 (q + 1 + 1) 72 #[.int .i64 2, .int .i64 2, .int .i64 0, .slice a n c] by rw [hw4, hq]; exact (SAt.new' _ _ _ (by simp)).alloc _)
      have H10 := Lib.hid (show SAt w4 (q + 1 + 1 + 1) 72 #[.int .i64 2, .int .i64 2, .int .i64 0, .slice a2 n c2] by rw [hw4, hq]; exact SAt.new' _ _ _ (by simp))
      rw [← hw4]
      have hqw : w.heap.size ≤ q := by omega
      clear hw4 hq
      have m0 : ∀ w', PW2 w q 2 a n c a2 n c2 w' → w'.cell? ⟨q + 1 + 1, 0, none⟩ = some (.int .i64 2) := fun w' h => (pW_rules h.2.1).1
      have m1 : ∀ w', PW2 w q 2 a n c a2 n c2 w' → w'.cell? ⟨q + 1 + 1, 1, none⟩ = some (.int .i64 2) := fun w' h => (pW_rules h.2.1).2.1
      have m2 : ∀ w', PW2 w q 2 a n c a2 n c2 w' → w'.cell? ⟨q + 1 + 1, 2, none⟩ = some (.int .i64 0) := fun w' h => (pW_rules h.2.1).2.2.1
      have m3 : ∀ w', PW2 w q 2 a n c a2 n c2 w' → w'.cell? ⟨q + 1 + 1, 3, none⟩ = some (.slice a n c) := fun w' h => (pW_rules h.2.1).2.2.2
      have nr0 : ∀ w', PW2 w q 2 a n c a2 n c2 w' → w'.cell? ⟨q + 1 + 1 + 1, 0, none⟩ = some (.int .i64 2) := fun w' h => (pW_rules h.2.2).1
      have nr1 : ∀ w', PW2 w q 2 a n c a2 n c2 w' → w'.cell? ⟨q + 1 + 1 + 1, 1, none⟩ = some (.int .i64 2) := fun w' h => (pW_rules h.2.2).2.1
      have nr2 : ∀ w', PW2 w q 2 a n c a2 n c2 w' → w'.cell? ⟨q + 1 + 1 + 1, 2, none⟩ = some (.int .i64 0) := fun w' h => (pW_rules h.2.2).2.2.1
      have nr3 : ∀ w', PW2 w q 2 a n c a2 n c2 w' → w'.cell? ⟨q + 1 + 1 + 1, 3, none⟩ = some (.slice a2 n c2) := fun w' h => (pW_rules h.2.2).2.2.2
      have fr6 := fun j => H6.out.frozen j
      have fr7 := fun j => H7.out.frozen j
      have lt6 := H6.out.lt
      have lt7 := H7.out.lt
      have g0 := H6.out.cell 0 (by simp)
      have g1 := H6.out.cell 1 (by simp)
      have g2 := H6.out.cell 2 (by simp)
      have g3 := H6.out.cell 3 (by simp)
      have h0 := H7.out.cell 0 (by simp)
      have h1 := H7.out.cell 1 (by simp)
      have h2 := H7.out.cell 2 (by simp)
      have h3 := H7.out.cell 3 (by simp)
      simp only [List.getElem_toArray, List.getElem_cons_succ, List.getElem_cons_zero] at g0 g1 g2 g3 h0 h1 h2 h3
      cases ok1
      all_goals go_region_held3 (fun w' => PW2 w q 2 a n c a2 n c2 w') ((exact ⟨(by repeat (first | (with_reducible exact Ext.refl _) | (with_reducible assumption) | (with_reducible refine Ext.drewN ?_ _) | (with_reducible refine Ext.drew ?_) | (with_reducible refine Ext.alloc ?_ _) | ((with_reducible refine Ext.setCell ?_ ?_ _); rotate_left; focus (first | (simp; done) | (simp; omega) | omega)) | (with_reducible refine Ext.trans ?_ (by with_reducible assumption)))), (by repeat (first | (with_reducible exact H9.out) | (with_reducible exact H10.out) | (with_reducible refine SAt.drewN ?_ _) | (with_reducible refine SAt.drew ?_) | ((with_reducible refine SAt.other ?_ _ ?_); rotate_left; focus (simp only; omega)))), (by repeat (first | (with_reducible exact H9.out) | (with_reducible exact H10.out) | (with_reducible refine SAt.drewN ?_ _) | (with_reducible refine SAt.drew ?_) | ((with_reducible refine SAt.other ?_ _ ?_); rotate_left; focus (simp only; omega))))⟩)) ((go_at_call 144; first | ((with_reducible refine (HS1.out _ (q + 1 + 1) (by repeat (first | (with_reducible exact Ext.refl _) | (with_reducible assumption) | (with_reducible refine Ext.drewN ?_ _) | (with_reducible refine Ext.drew ?_) | (with_reducible refine Ext.alloc ?_ _) | ((with_reducible refine Ext.setCell ?_ ?_ _); rotate_left; focus (first | (simp; done) | (simp; omega) | omega)) | (with_reducible refine Ext.trans ?_ (by with_reducible assumption)))) (by repeat (first | (with_reducible exact H9.out) | (with_reducible exact H10.out) | (with_reducible refine SAt.drewN ?_ _) | (with_reducible refine SAt.drew ?_) | ((with_reducible refine SAt.other ?_ _ ?_); rotate_left; focus (simp only; omega))))).mono ?_); rintro e w5 ⟨rfl, k5, rfl⟩) | ((with_reducible refine (HS2.out _ (q + 1 + 1 + 1) (by repeat (first | (with_reducible exact Ext.refl _) | (with_reducible assumption) | (with_reducible refine Ext.drewN ?_ _) | (with_reducible refine Ext.drew ?_) | (with_reducible refine Ext.alloc ?_ _) | ((with_reducible refine Ext.setCell ?_ ?_ _); rotate_left; focus (first | (simp; done) | (simp; omega) | omega)) | (with_reducible refine Ext.trans ?_ (by with_reducible assumption)))) (by repeat (first | (with_reducible exact H9.out) | (with_reducible exact H10.out) | (with_reducible refine SAt.drewN ?_ _) | (with_reducible refine SAt.drew ?_) | ((with_reducible refine SAt.other ?_ _ ?_); rotate_left; focus (simp only; omega))))).mono ?_); rintro e w6 ⟨rfl, k6, rfl⟩)))
      · go_wp2_with fail
        refine bodyPost_ret (v := .tuple #[.agg #[.int .i64 2, .int .i64 2, .int .i64 0, .slice a n c], .agg #[.int .i64 2, .int .i64 2, .int .i64 0, .slice a2 n c2], .bool false]) ?_ rfl ?_
        · simp [results, Try.results94, go_sem, g0, g1, g2, g3, h0, h1, h2, h3]
        · refine ⟨rfl, ?_⟩
          exact (by repeat (first | (with_reducible exact Ext.refl _) | (with_reducible assumption) | (with_reducible refine Ext.drewN ?_ _) | (with_reducible refine Ext.drew ?_) | (with_reducible refine Ext.alloc ?_ _) | ((with_reducible refine Ext.setCell ?_ ?_ _); rotate_left; focus (first | (simp; done) | (simp; omega) | omega)) | (with_reducible refine Ext.trans ?_ (by with_reducible assumption))))
      · go_wp2_with fail
        refine bodyPost_ret (v := .tuple #[.agg #[.int .i64 2, .int .i64 2, .int .i64 0, .slice a n c], .agg #[.int .i64 2, .int .i64 2, .int .i64 0, .slice a2 n c2], .bool ok2]) ?_ rfl ?_
        · simp [results, Try.results94, go_sem, g0, g1, g2, g3, h0, h1, h2, h3]
        · refine ⟨rfl, ?_⟩
          exact (by repeat (first | (with_reducible exact Ext.refl _) | (with_reducible assumption) | (with_reducible refine Ext.drewN ?_ _) | (with_reducible refine Ext.drew ?_) | (with_reducible refine Ext.alloc ?_ _) | ((with_reducible refine Ext.setCell ?_ ?_ _); rotate_left; focus (first | (simp; done) | (simp; omega) | omega)) | (with_reducible refine Ext.trans ?_ (by with_reducible assumption))))
    · go_enter Try.func94, Try.ntmps94
      go_upto_region 4 with fail
      rw [← hq]
      obtain ⟨w4, hw4⟩ : ∃ W, W = (((w.alloc (.cells #[.int .i64 0, .int .i64 0, .int .i64 0, .slice none 0 0] 72)).alloc (.cells #[.int .i64 0, .int .i64 0, .int .i64 0, .slice none 0 0] 72)).alloc (.cells #[.int .i64 3, .int .i64 3, .int .i64 0, .slice a n c] 72)).alloc (.cells #[.int .i64 3, .int .i64 3, .int .i64 0, .slice a2 n c2] 72) := ⟨_, rfl⟩
      have hxw4 : Ext w w4 := by rw [hw4]; exact (by repeat (first | (with_reducible exact Ext.refl _) | (with_reducible refine Ext.drewN ?_ _) | (with_reducible refine Ext.drew ?_) | (with_reducible refine Ext.alloc ?_ _) | ((with_reducible refine Ext.setCell ?_ ?_ _); rotate_left; focus (first | (simp; done) | (simp; omega) | omega)) | assumption | (with_reducible refine Ext.trans ?_ (by assumption))))
      have H6 := Lib.hid (show SAt w4 q 72 #[.int .i64 0, .int .i64 0, .int .i64 0, .slice none 0 0] by rw [hw4, hq]; exact (((SAt.new' w _ _ rfl).alloc _).alloc _).alloc _)
      have H7 := Lib.hid (show SAt w4 (q + 1) 72 #[.int .i64 0, .int .i64 0, .int .i64 0, .slice none 0 0] by rw [hw4, hq]; exact ((SAt.new' _ _ _ (by simp)).alloc _).alloc _)
      have H9 := Lib.hid (show SAt w4 (q + 1 + 1) 72 #[.int .i64 3, .int .i64 3, .int .i64 0, .slice a n c] by rw [hw4, hq]; exact (SAt.new' _ _ _ (by simp)).alloc _)
      have H10 := Lib.hid (show SAt w4 (q + 1 + 1 + 1) 72 #[.int .i64 3, .int .i64 3, .int .i64 0, .slice a2 n c2] by rw [hw4, hq]; exact SAt.new' _ _ _ (by simp))
      rw [← hw4]
      have hqw : w.heap.size ≤ q := by omega
      clear hw4 hq
      have m0 : ∀ w', PW2 w q 3 a n c a2 n c2 w' → w'.cell? ⟨q + 1 + 1, 0, none⟩ = some (.int .i64 3) := fun w' h => (pW_rules h.2.1).1
      have m1 : ∀ w', PW2 w q 3 a n c a2 n c2 w' → w'.cell? ⟨q + 1 + 1, 1, none⟩ = some (.int .i64 3) := fun w' h => (pW_rules h.2.1).2.1
      have m2 : ∀ w', PW2 w q 3 a n c a2 n c2 w' → w'.cell? ⟨q + 1 + 1, 2, none⟩ = some (.int .i64 0) := fun w' h => (pW_rules h.2.1).2.2.1
      have m3 : ∀ w', PW2 w q 3 a n c a2 n c2 w' → w'.cell? ⟨q + 1 + 1, 3, none⟩ = some (.slice a n c) := fun w' h => (pW_rules h.2.1).2.2.2
      have nr0 : ∀ w', PW2 w q 3 a n c a2 n c2 w' → w'.cell? ⟨q + 1 + 1 + 1, 0, none⟩ = some (.int .i64 3) := fun w' h => (pW_rules h.2.2).1
      have nr1 : ∀ w', PW2 w q 3 a n c a2 n c2 w' → w'.cell? ⟨q + 1 + 1 + 1, 1, none⟩ = some (.int .i64 3) := fun w' h => (pW_rules h.2.2).2.1
      have nr2 : ∀ w', PW2 w q 3 a n c a2 n c2 w' → w'.cell? ⟨q + 1 + 1 + 1, 2, none⟩ = some (.int .i64 0) := fun w' h => (pW_rules h.2.2).2.2.1
      have nr3 : ∀ w', PW2 w q 3 a n c a2 n c2 w' → w'.cell? ⟨q + 1 + 1 + 1, 3, none⟩ = some (.slice a2 n c2) := fun w' h => (pW_rules h.2.2).2.2.2
      have fr6 := fun j => H6.out.frozen j
      have fr7 := fun j => H7.out.frozen j
      have lt6 := H6.out.lt
      have lt7 := H7.out.lt
      have g0 := H6.out.cell 0 (by simp)
      have g1 := H6.out.cell 1 (by simp)
      have g2 := H6.out.cell 2 (by simp)
      have g3 := H6.out.cell 3 (by simp)
      have h0 := H7.out.cell 0 (by simp)
      have h1 := H7.out.cell 1 (by simp)
      have h2 := H7.out.cell 2 (by simp)
      have h3 := H7.out.cell 3 (by simp)
      simp only [List.getElem_toArray, List.getElem_cons_succ, List.getElem_cons_zero] at g0 g1 g2 g3 h0 h1 h2 h3
      cases ok1
      all_goals go_region_held3 (fun w' => PW2 w q 3 a n c a2 n c2 w') ((exact ⟨(by repeat (first | (with_reducible exact Ext.refl _) | (with_reducible assumption) | (with_reducible refine Ext.drewN ?_ _) | (with_reducible refine Ext.drew ?_) | (with_reducible refine Ext.alloc ?_ _) | ((with_reducible refine Ext.setCell ?_ ?_ _); rotate_left; focus (first | (simp; done) | (simp; omega) | omega)) | (with_reducible refine Ext.trans ?_ (by with_reducible assumption)))), (by repeat (first | (with_reducible exact H9.out) | (with_reducible exact H10.out) | (with_reducible refine SAt.drewN ?_ _) | (with_reducible refine SAt.drew ?_) | ((with_reducible refine SAt.other ?_ _ ?_); rotate_left; focus (simp only; omega)))), (by repeat (first | (with_reducible exact H9.out) | (with_reducible exact H10.out) | (with_reducible refine SAt.drewN ?_ _) | (with_reducible refine SAt.drew ?_) | ((with_reducible refine SAt.other ?_ _ ?_); rotate_left; focus (simp only; omega))))⟩)) ((go_at_call 144; first | ((with_reducible refine (HS1.out _ (q + 1 + 1) (by repeat (first | (with_reducible exact Ext.refl _) | (with_reducible assumption) | (with_reducible refine Ext.drewN ?_ _) | (with_reducible refine Ext.drew ?_) | (with_reducible refine Ext.alloc ?_ _) | ((with_reducible refine Ext.setCell ?_ ?_ _); rotate_left; focus (first | (simp; done) | (simp; omega) | omega)) | (with_reducible refine Ext.trans ?_ (by with_reducible assumption)))) (by repeat (first | (with_reducible exact H9.out) | (with_reducible exact H10.out) | (with_reducible refine SAt.drewN ?_ _) | (with_reducible refine SAt.drew ?_) | ((with_reducible refine SAt.other ?_ _ ?_); rotate_left; focus (simp only; omega))))).mono ?_); rintro e w5 ⟨rfl, k5, rfl⟩) | ((with_reducible refine (HS2.out _ (q + 1 + 1 + 1) (by repeat (first | (with_reducible exact Ext.refl _) | (with_reducible assumption) | (with_reducible refine Ext.drewN ?_ _) | (with_reducible refine Ext.drew ?_) | (with_reducible refine Ext.alloc ?_ _) | ((with_reducible refine Ext.setCell ?_ ?_ _); rotate_left; focus (first | (simp; done) | (simp; omega) | omega)) | (with_reducible refine Ext.trans ?_ (by with_reducible assumption)))) (by repeat (first | (with_reducible exact H9.out) | (with_reducible exact H10.out) | (with_reducible refine SAt.drewN ?_ _) | (with_reducible refine SAt.drew ?_) | ((with_reducible refine SAt.other ?_ _ ?_); rotate_left; focus (simp only; omega))))).mono ?_); rintro e w6 ⟨rfl, k6, rfl⟩)))
      · go_wp2_with fail
        refine bodyPost_ret (v := .tuple #[.agg #[.int .i64 3, .int .i64 3, .int .i64 0, .slice a n c], .agg #[.int .i64 3, .int .i64 3, .int .i64 0, .slice a2 n c2], .bool false]) ?_ rfl ?_
        · simp [results, Try.results94, go_sem, g0, g1, g2, g3, h0, h1, h2, h3]
        · refine ⟨rfl, ?_⟩
          exact (by repeat (first | (with_reducible exact Ext.refl _) | (with_reducible assumption) | (with_reducible refine Ext.drewN ?_ _) | (with_reducible refine Ext.drew ?_) | (with_reducible refine Ext.alloc ?_ _) | ((with_reducible refine Ext.setCell ?_ ?_ _); rotate_left; focus (first | (simp; done) | (simp; omega) | omega)) | (with_reducible refine Ext.trans ?_ (by with_reducible assumption))))
      · go_wp2_with fail
        refine bodyPost_ret (v := .tuple #[.agg #[.int .i64 3, .int .i64 3, .int .i64 0, .slice a n c], .agg #[.int .i64 3, .int .i64 3, .int .i64 0, .slice a2 n c2], .bool ok2]) ?_ rfl ?_
        · simp [results, Try.results94, go_sem, g0, g1, g2, g3, h0, h1, h2, h3]
        · refine ⟨rfl, ?_⟩
          exact (by repeat (first | (with_reducible exact Ext.refl _) | (with_reducible assumption) | (with_reducible refine Ext.drewN ?_ _) | (with_reducible refine Ext.drew ?_) | (with_reducible refine Ext.alloc ?_ _) | ((with_reducible refine Ext.setCell ?_ ?_ _); rotate_left; focus (first | (simp; done) | (simp; omega) | omega)) | (with_reducible refine Ext.trans ?_ (by with_reducible assumption))))
    · go_enter Try.func94, Try.ntmps94
      go_upto_region 4 with fail
      rw [← hq]
      obtain ⟨w4, hw4⟩ : ∃ W, W = (((w.alloc (.cells #[.int .i64 0, .int .i64 0, .int .i64 0, .slice none 0 0] 72)).alloc (.cells #[.int .i64 0, .int .i64 0, .int .i64 0, .slice none 0 0] 72)).alloc (.cells #[.int .i64 5, .int .i64 5, .int .i64 0, .slice a n c] 72)).alloc (.cells #[.int .i64 5, .int .i64 5, .int .i64 0, .slice a2 n c2] 72) := ⟨_, rfl⟩
      have hxw4 : Ext w w4 := by rw [hw4]; exact (by repeat (first | (with_reducible exact Ext.refl _) | (with_reducible refine Ext.drewN ?_ _) | (with_reducible refine Ext.drew ?_) | (with_reducible refine Ext.alloc ?_ _) | ((with_reducible refine Ext.setCell ?_ ?_ _); rotate_left; focus (first | (simp; done) | (simp; omega) | omega)) | assumption | (with_reducible refine Ext.trans ?_ (by assumption))))
      have H6 := Lib.hid (show SAt w4 q 72 #[.int .i64 0, .int .i64 0, .int .i64 0, .slice none 0 0] by rw [hw4, hq]; exact (((SAt.new' w _ _ rfl).alloc _).alloc _).alloc _)
      have H7 := Lib.hid (show SAt w4 (q + 1) 72 #[.int .i64 0, .int .i64 0, .int .i64 0, .slice none 0 0] by rw [hw4, hq]; exact ((SAt.new' _ _ _ (by simp)).alloc _).alloc _)
      have H9 := Lib.hid (show SAt w4 (q + 1 + 1) 72 #[.int .i64 5, .int .i64 5, .int .i64 0, .slice a n c] by rw [hw4, hq]; exact (SAt.new' _ _ _ (by simp)).alloc _)
      have H10 := Lib.hid (show SAt w4 (q + 1 + 1 + 1) 72 #[.int .i64 5, .int .i64 5, .int .i64 0, .slice a2 n c2] by rw [hw4, hq]; exact SAt.new' _ _ _ (by simp))
      rw [← hw4]
      have hqw : w.heap.size ≤ q := by omega
      clear hw4 hq
      have m0 : ∀ w', PW2 w q 5 a n c a2 n c2 w' → w'.cell? ⟨q + 1 + 1, 0, none⟩ = some (.int .i64 5) := fun w' h => (pW_rules h.2.1).1
      have m1 : ∀ w', PW2 w q 5 a n c a2 n c2 w' → w'.cell? ⟨q + 1 + 1, 1, none⟩ = some (.int .i64 5) := fun w' h => (pW_rules h.2.1).2.1
      have m2 : ∀ w', PW2 w q 5 a n c a2 n c2 w' → w'.cell? ⟨q + 1 + 1, 2, none⟩ = some (.int .i64 0) := fun w' h => (pW_rules h.2.1).2.2.1
      have m3 : ∀ w', PW2 w q 5 a n c a2 n c2 w' → w'.cell? ⟨q + 1 + 1, 3, none⟩ = some (.slice a n c) := fun w' h => (pW_rules h.2.1).2.2.2
      have nr0 : ∀ w', PW2 w q 5 a n c a2 n c2 w' → w'.cell? ⟨q + 1 + 1 + 1, 0, none⟩ = some (.int .i64 5) := fun w' h => (pW_rules h.2.2).1
      have nr1 : ∀ w', PW2 w q 5 a n c a2 n c2 w' → w'.cell? ⟨q + 1 + 1 + 1, 1, none⟩ = some (.int .i64 5) := fun w' h => (pW_rules h.2.2).2.1
      have nr2 : ∀ w', PW2 w q 5 a n c a2 n c2 w' → w'.cell? ⟨q + 1 + 1 + 1, 2, none⟩ = some (.int .i64 0) := fun w' h => (pW_rules h.2.2).2.2.1
      have nr3 : ∀ w', PW2 w q 5 a n c a2 n c2 w' → w'.cell? ⟨q + 1 + 1 + 1, 3, none⟩ = some (.slice a2 n c2) := fun w' h => (pW_rules h.2.2).2.2.2
      have fr6 := fun j => H6.out.frozen j
      have fr7 := fun j => H7.out.frozen j
      have lt6 := H6.out.lt
      have lt7 := H7.out.lt
      have g0 := H6.out.cell 0 (by simp)
      have g1 := H6.out.cell 1 (by simp)
      have g2 := H6.out.cell 2 (by simp)
      have g3 := H6.out.cell 3 (by simp)
      have h0 := H7.out.cell 0 (by simp)
      have h1 := H7.out.cell 1 (by simp)
      have h2 := H7.out.cell 2 (by simp)
      have h3 := H7.out.cell 3 (by simp)
      simp only [List.getElem_toArray, List.getElem_cons_succ, List.getElem_cons_zero] at g0 g1 g2 g3 h0 h1 h2 h3
      cases ok1
      all_goals go_region_held3 (fun w' => PW2 w q 5 a n c a2 n c2 w') ((exact ⟨(by repeat (first | (with_reducible exact Ext.refl _) | (with_reducible assumption) | (with_reducible refine Ext.drewN ?_ _) | (with_reducible refine Ext.drew ?_) | (with_reducible refine Ext.alloc ?_ _) | ((with_reducible refine Ext.setCell ?_ ?_ _); rotate_left; focus (first | (simp; done) | (simp; omega) | omega)) | (with_reducible refine Ext.trans ?_ (by with_reducible assumption)))), (by repeat (first | (with_reducible exact H9.out) | (with_reducible exact H10.out) | (with_reducible refine SAt.drewN ?_ _) | (with_reducible refine SAt.drew ?_) | ((with_reducible refine SAt.other ?_ _ ?_); rotate_left; focus (simp only; omega)))), (by repeat (first | (with_reducible exact H9.out) | (with_reducible exact H10.out) | (with_reducible refine SAt.drewN ?_ _) | (with_reducible refine SAt.drew ?_) | ((with_reducible refine SAt.other ?_ _ ?_); rotate_left; focus (simp only; omega))))⟩)) ((go_at_call 144; first | ((with_reducible refine (HS1.out _ (q + 1 + 1) (by repeat (first | (with_reducible exact Ext.refl _) | (with_reducible assumption) | (with_reducible refine Ext.drewN ?_ _) | (with_reducible refine Ext.drew ?_) | (with_reducible refine Ext.alloc ?_ _) | ((with_reducible refine Ext.setCell ?_ ?_ _); rotate_left; focus (first | (simp; done) | (simp; omega) | omega)) | (with_reducible refine Ext.trans ?_ (by with_reducible assumption)))) (by repeat (first | (with_reducible exact H9.out) | (with_reducible exact H10.out) | (with_reducible refine SAt.drewN ?_ _) | (with_reducible refine SAt.drew ?_) | ((with_reducible refine SAt.other ?_ _ ?_); rotate_left; focus (simp only; omega))))).mono ?_); rintro e w5 ⟨rfl, k5, rfl⟩) | ((with_reducible refine (HS2.out _ (q + 1 + 1 + 1) (by repeat (first | (with_reducible exact Ext.refl _) | (with_reducible assumption) | (with_reducible refine Ext.drewN ?_ _) | (with_reducible refine Ext.drew ?_) | (with_reducible refine Ext.alloc ?_ _) | ((with_reducible refine Ext.setCell ?_ ?_ _); rotate_left; focus (first | (simp; done) | (simp; omega) | omega)) | (with_reducible refine Ext.trans ?_ (by with_reducible assumption)))) (by repeat (first | (with_reducible exact H9.out) | (with_reducible exact H10.out) | (with_reducible refine SAt.drewN ?_ _) | (with_reducible refine SAt.drew ?_) | ((with_reducible refine SAt.other ?_ _ ?_); rotate_left; focus (simp only; omega))))).mono ?_); rintro e w6 ⟨rfl, k6, rfl⟩)))
      · go_wp2_with fail
        refine bodyPost_ret (v := .tuple #[.agg #[.int .i64 5, .int .i64 5, .int .i64 0, .slice a n c], .agg #[.int .i64 5, .int .i64 5, .int .i64 0, .slice a2 n c2], .bool false]) ?_ rfl ?_
        · simp [results, Try.results94, go_sem, g0, g1, g2, g3, h0, h1, h2, h3]
        · refine ⟨rfl, ?_⟩
          exact (by repeat (first | (with_reducible exact Ext.refl _) | (with_reducible assumption) | (with_reducible refine Ext.drewN ?_ _) | (with_reducible refine Ext.drew ?_) | (with_reducible refine Ext.alloc ?_ _) | ((with_reducible refine Ext.setCell ?_ ?_ _); rotate_left; focus (first | (simp; done) | (simp; omega) | omega)) | (with_reducible refine Ext.trans ?_ (by with_reducible assumption))))
      · go_wp2_with fail
        refine bodyPost_ret (v := .tuple #[.agg #[.int .i64 5, .int .i64 5, .int .i64 0, .slice a n c], .agg #[.int .i64 5, .int .i64 5, .int .i64 0, .slice a2 n c2], .bool ok2]) ?_ rfl ?_
        · simp [results, Try.results94, go_sem, g0, g1, g2, g3, h0, h1, h2, h3]
        · refine ⟨rfl, ?_⟩
          exact (by repeat (first | (with_reducible exact Ext.refl _) | (with_reducible assumption) | (with_reducible refine Ext.drewN ?_ _) | (with_reducible refine Ext.drew ?_) | (with_reducible refine Ext.alloc ?_ _) | ((with_reducible refine Ext.setCell ?_ ?_ _); rotate_left; focus (first | (simp; done) | (simp; omega) | omega)) | (with_reducible refine Ext.trans ?_ (by with_reducible assumption))))
  · have HP := Lib.hid (show pairB b l1 l2 = false by
      unfold pairB
      by_cases hb : pbB b = true
      · have := pbB_t hb
        rw [decide_eq_false (by rw [HL1.out, HL2.out]; exact fun h => hfine ⟨this, h⟩), Bool.and_false]; rfl
      · rw [show pbB b = false by simpa using hb]; rfl)
    rw [HP.out]
    obtain ⟨q, hq⟩ : ∃ q, q = w.heap.size := ⟨_, rfl⟩
    have HQ := Lib.hid hq
    by_cases hb : b = 2 ∨ b = 3 ∨ b = 5
    · have hn : n ≠ n2 := fun h => hfine ⟨hb, h⟩
      have hne : ((n : Int) == (n2 : Int)) = false := by simp; omega
      clear HP hfine
      rcases hb with rfl | rfl | rfl
      · go_enter Try.func94, Try.ntmps94
        go_upto_region 4 with fail
        rw [← hq]
        obtain ⟨w4, hw4⟩ : ∃ W, W = (((w.alloc (.cells #[.int .i64 0, .int .i64 0, .int .i64 0, .slice none 0 0] 72)).alloc (.cells #[.int .i64 0, .int .i64 0, .int .i64 0, .slice none 0 0] 72)).alloc (.cells #[.int .i64 2, .int .i64 2, .int .i64 0, .slice a n c] 72)).alloc (.cells #[.int .i64 2, .int .i64 2, .int .i64 0, .slice a2 n2 c2] 72) := ⟨_, rfl⟩
        have hxw4 : Ext w w4 := by rw [hw4]; exact (by repeat (first | (with_reducible exact Ext.refl _) | (with_reducible refine Ext.drewN ?_ _) | (with_reducible refine Ext.drew ?_) | (with_reducible refine Ext.alloc ?_ _) | ((with_reducible refine Ext.setCell ?_ ?_ _); rotate_left; focus (first | (simp; done) | (simp; omega) | omega)) | assumption | (with_reducible refine Ext.trans ?_ (by assumption))))
        have H6 := Lib.hid (show SAt w4 q 72 #[.int .i64 0, .int .i64 0, .int .i64 0, .slice none 0 0] by rw [hw4, hq]; exact (((SAt.new' w _ _ rfl).alloc _).alloc _).alloc _)
        have H7 := Lib.hid (show SAt w4 (q + 1) 72 #[.int .i64 0, .int .i64 0, .int .i64 0, .slice none 0 0] by rw [hw4, hq]; exact ((SAt.new' _ _ _ (by simp)).alloc _).alloc _)
        have H9 := Lib.hid (show SAt w4 (q + 1 + 1) 72 #[.int .i64 2, .int .i64 2, .int .i64 0, .slice a n c] by rw [hw4, hq]; exact (SAt.new' _ _ _ (by simp)).alloc _)
        have H10 := Lib.hid (show SAt w4 (q + 1 + 1 + 1) 72 #[.int .i64 2, .int .i64 2, .int .i64 0, .slice a2 n2 c2] by rw [hw4, hq]; exact SAt.new' _ _ _ (by simp))
        rw [← hw4]
        have hqw : w.heap.size ≤ q := by omega
        clear hw4 hq
        have m0 : ∀ w', PW2 w q 2 a n c a2 n2 c2 w' → w'.cell? ⟨q + 1 + 1, 0, none⟩ = some (.int .i64 2) := fun w' h => (pW_rules h.2.1).1
        have m1 : ∀ w', PW2 w q 2 a n c a2 n2 c2 w' → w'.cell? ⟨q + 1 + 1, 1, none⟩ = some (.int .i64 2) := fun w' h => (pW_rules h.2.1).2.1
        have m2 : ∀ w', PW2 w q 2 a n c a2 n2 c2 w' → w'.cell? ⟨q + 1 + 1, 2, none⟩ = some (.int .i64 0) := fun w' h => (pW_rules h.2.1).2.2.1
        have m3 : ∀ w', PW2 w q 2 a n c a2 n2 c2 w' → w'.cell? ⟨q + 1 + 1, 3, none⟩ = some (.slice a n c) := fun w' h => (pW_rules h.2.1).2.2.2
        have nr0 : ∀ w', PW2 w q 2 a n c a2 n2 c2 w' → w'.cell? ⟨q + 1 + 1 + 1, 0, none⟩ = some (.int .i64 2) := fun w' h => (pW_rules h.2.2).1
        have nr1 : ∀ w', PW2 w q 2 a n c a2 n2 c2 w' → w'.cell? ⟨q + 1 + 1 + 1, 1, none⟩ = some (.int .i64 2) := fun w' h => (pW_rules h.2.2).2.1
        have nr2 : ∀ w', PW2 w q 2 a n c a2 n2 c2 w' → w'.cell? ⟨q + 1 + 1 + 1, 2, none⟩ = some (.int .i64 0) := fun w' h => (pW_rules h.2.2).2.2.1
        have nr3 : ∀ w', PW2 w q 2 a n c a2 n2 c2 w' → w'.cell? ⟨q + 1 + 1 + 1, 3, none⟩ = some (.slice a2 n2 c2) := fun w' h => (pW_rules h.2.2).2.2.2
        have fr6 := fun j => H6.out.frozen j
        have fr7 := fun j => H7.out.frozen j
        have lt6 := H6.out.lt
        have lt7 := H7.out.lt
        have g0 := H6.out.cell 0 (by simp)
        have g1 := H6.out.cell 1 (by simp)
        have g2 := H6.out.cell 2 (by simp)
        have g3 := H6.out.cell 3 (by simp)
        have h0 := H7.out.cell 0 (by simp)
        have h1 := H7.out.cell 1 (by simp)
        have h2 := H7.out.cell 2 (by simp)
        have h3 := H7.out.cell 3 (by simp)
        simp only [List.getElem_toArray, List.getElem_cons_succ, List.getElem_cons_zero] at g0 g1 g2 g3 h0 h1 h2 h3
        go_region_held3 (fun w' => PW2 w q 2 a n c a2 n2 c2 w') ((exact ⟨(by repeat (first | (with_reducible exact Ext.refl _) | (with_reducible assumption) | (with_reducible refine Ext.drewN ?_ _) | (with_reducible refine Ext.drew ?_) | (with_reducible refine Ext.alloc ?_ _) | ((with_reducible refine Ext.setCell ?_ ?_ _); rotate_left; focus (first | (simp; done) | (simp; omega) | omega)) | (with_reducible refine Ext.trans ?_ (by with_reducible assumption)))), (by repeat (first | (with_reducible exact H9.out) | (with_reducible exact H10.out) | (with_reducible refine SAt.drewN ?_ _) | (with_reducible refine SAt.drew ?_) | ((with_reducible refine SAt.other ?_ _ ?_); rotate_left; focus (simp only; omega)))), (by repeat (first | (with_reducible exact H9.out) | (with_reducible exact H10.out) | (with_reducible refine SAt.drewN ?_ _) | (with_reducible refine SAt.drew ?_) | ((with_reducible refine SAt.other ?_ _ ?_); rotate_left; focus (simp only; omega))))⟩)) ((fail))
        go_wp2_with fail
        refine bodyPost_ret (v := .tuple #[.agg #[.int .i64 2, .int .i64 2, .int .i64 0, .slice a n c], .agg #[.int .i64 2, .int .i64 2, .int .i64 0, .slice a2 n2 c2], .bool false]) ?_ rfl ?_
        · simp [results, Try.results94, go_sem, g0, g1, g2, g3, h0, h1, h2, h3]
        · refine ⟨rfl, ?_⟩
          exact (by repeat (first | (with_reducible exact Ext.refl _) | (with_reducible assumption) | (with_reducible refine Ext.drewN ?_ _) | (with_reducible refine Ext.drew ?_) | (with_reducible refine Ext.alloc ?_ _) | ((with_reducible refine Ext.setCell ?_ ?_ _); rotate_left; focus (first | (simp; done) | (simp; omega) | omega)) | (with_reducible refine Ext.trans ?_ (by with_reducible assumption))))
      · go_enter Try.func94, Try.ntmps94
        go_upto_region 4 with fail
        rw [← hq]
        obtain ⟨w4, hw4⟩ : ∃ W, W = (((w.alloc (.cells #[.int .i64 0, .int .i64 0, .int .i64 0, .slice none 0 0] 72)).alloc (.cells #[.int .i64 0, .int .i64 0, .int .i64 0, .slice none 0 0] 72)).alloc (.cells #[.int .i64 3, .int .i64 3, .int .i64 0, .slice a n c] 72)).alloc (.cells #[.int .i64 3, .int .i64 3, .int .i64 0, .slice a2 n2 c2] 72) := ⟨_, rfl⟩
        have hxw4 : Ext w w4 := by rw [hw4]; exact (by repeat (first | (with_reducible exact Ext.refl _) | (with_reducible refine Ext.drewN ?_ _) | (with_reducible refine Ext.drew ?_) | (with_reducible refine Ext.alloc ?_ _) | ((with_reducible refine Ext.setCell ?_ ?_ _); rotate_left; focus (first | (simp; done) | (simp; omega) | omega)) | assumption | (with_reducible refine Ext.trans ?_ (by assumption))))
        have H6 := Lib.hid (show SAt w4 q 72 #[.int .i64 0, .int .i64 0, .int .i64 0, .slice none 0 0] by rw [hw4, hq]; exact (((SAt.new' w _ _ rfl).alloc _).alloc _).alloc _)
        have H7 := Lib.hid (show SAt w4 (q + 1) 72 #[.int .i64 0, .int .i64 0, .int .i64 0, .slice none 0 0] by rw [hw4, hq]; exact ((SAt.new' _ _ _ (by simp)).alloc _).alloc _)
        have H9 := Lib.hid (show SAt w4 (q + 1 + 1) 72 #[.int .i64 3, .int .i64 3, .int .i64 0, .slice a n c] by rw [hw4, hq]; exact (SAt.new' _ _ _ (by simp)).alloc _)
        have H10 := Lib.hid (show SAt w4 (q + 1 + 1 + 1) 72 #[.int .i64 3, .int .i64 3, .int .i64 0, .slice a2 n2 c2] by rw [hw4, hq]; exact SAt.new' _ _ _ (by simp))
        rw [← hw4]
        have hqw : w.heap.size ≤ q := by omega
        clear hw4 hq
        have m0 : ∀ w', PW2 w q 3 a n c a2 n2 c2 w' → w'.cell? ⟨q + 1 + 1, 0, none⟩ = some (.int .i64 3) := fun w' h => (pW_rules h.2.1).1
        have m1 : ∀ w', PW2 w q 3 a n c a2 n2 c2 w' → w'.cell? ⟨q + 1 + 1, 1, none⟩ = some (.int .i64 3) := fun w' h => (pW_rules h.2.1).2.1
        have m2 : ∀ w', PW2 w q 3 a n c a2 n2 c2 w' → w'.cell? ⟨q + 1 + 1, 2, none⟩ = some (.int .i64 0) := fun w' h => (pW_rules h.2.1).2.2.1
        have m3 : ∀ w', PW2 w q 3 a n c a2 n2 c2 w' → w'.cell? ⟨q + 1 + 1, 3, none⟩ = some (.slice a n c) := fun w' h => (pW_rules h.2.1).2.2.2
        have nr0 : ∀ w', PW2 w q 3 a n c a2 n2 c2 w' → w'.cell? ⟨q + 1 + 1 + 1, 0, none⟩ = some (.int .i64 3) := fun w' h => (pW_rules h.2.2).1
        have nr1 : ∀ w', PW2 w q 3 a n c a2 n2 c2 w' → w'.cell? ⟨q + 1 + 1 + 1, 1, none⟩ = some (.int .i64 3) := fun w' h => (pW_rules h.2.2).2.1
        have nr2 : ∀ w', PW2 w q 3 a n c a2 n2 c2 w' → w'.cell? ⟨q + 1 + 1 + 1, 2, none⟩ = some (.int .i64 0) := fun w' h => (pW_rules h.2.2).2.2.1
        have nr3 : ∀ w', PW2 w q 3 a n c a2 n2 c2 w' → w'.cell? ⟨q + 1 + 1 + 1, 3, none⟩ = some (.slice a2 n2 c2) := fun w' h => (pW_rules h.2.2).2.2.2
        have fr6 := fun j => H6.out.frozen j
        have fr7 := fun j => H7.out.frozen j
        have lt6 := H6.out.lt
        have lt7 := H7.out.lt
        have g0 := H6.out.cell 0 (by simp)
        have g1 := H6.out.cell 1 (by simp)
        have g2 := H6.out.cell 2 (by simp)
        have g3 := H6.out.cell 3 (by simp)
        have h0 := H7.out.cell 0 (by simp)
        have h1 := H7.out.cell 1 (by simp)
        have h2 := H7.out.cell 2 (by simp)
        have h3 := H7.out.cell 3 (by simp)
        simp only [List.getElem_toArray, List.getElem_cons_succ, List.getElem_cons_zero] at g0 g1 g2 g3 h0 h1 h2 h3
        go_region_held3 (fun w' => PW2 w q 3 a n c a2 n2 c2 w') ((exact ⟨(by repeat (first | (with_reducible exact Ext.refl _) | (with_reducible assumption) | (with_reducible refine Ext.drewN ?_ _) | (with_reducible refine Ext.drew ?_) | (with_reducible refine Ext.alloc ?_ _) | ((with_reducible refine Ext.setCell ?_ ?_ _); rotate_left; focus (first | (simp; done) | (simp; omega) | omega)) | (with_reducible refine Ext.trans ?_ (by with_reducible assumption)))), (by repeat (first | (with_reducible exact H9.out) | (with_reducible exact H10.out) | (with_reducible refine SAt.drewN ?_ _) | (with_reducible refine SAt.drew ?_) | ((with_reducible refine SAt.other ?_ _ ?_); rotate_left; focus (simp only; omega)))), (by repeat (first | (with_reducible exact H9.out) | (with_reducible exact H10.out) | (with_reducible refine SAt.drewN ?_ _) | (with_reducible refine SAt.drew ?_) | ((with_reducible refine SAt.other ?_ _ ?_); rotate_left; focus (simp only; omega))))⟩)) ((fail))
        go_wp2_with fail
        refine bodyPost_ret (v := .tuple #[.agg #[.int .i64 3, .int .i64 3, .int .i64 0, .slice a n c], .agg #[.int .i64 3, .int .i64 3, .int .i64 0, .slice a2 n2 c2], .bool false]) ?_ rfl ?_
        · simp [results, Try.results94, go_sem, g0, g1, g2, g3, h0, h1, h2, h3]
        · refine ⟨rfl, ?_⟩
          exact (by repeat (first | (with_reducible exact Ext.refl _) | (with_reducible assumption) | (with_reducible refine Ext.drewN ?_ _) | (with_reducible refine Ext.drew ?_) | (with_reducible refine Ext.alloc ?_ _) | ((with_reducible refine Ext.setCell ?_ ?_ _); rotate_left; focus (first | (simp; done) | (simp; omega) | omega)) | (with_reducible refine Ext.trans ?_ (by with_reducible assumption))))
      · go_enter Try.func94, Try.ntmps94
        go_upto_region 4 with fail
        rw [← hq]
        obtain ⟨w4, hw4⟩ : ∃ W, W = (((w.alloc (.cells #[.int .i64 0, .int .i64 0, .int .i64 0, .slice none 0 0] 72)).alloc (.cells #[.int .i64 0, .int .i64 0, .int .i64 0, .slice none 0 0] 72)).alloc (.cells #[.int .i64 5, .int .i64 5, .int .i64 0, .slice a n c] 72)).alloc (.cells #[.int .i64 5, .int .i64 5, .int .i64 0, .slice a2 n2 c2] 72) := ⟨_, rfl⟩
        have hxw4 : Ext w w4 := by rw [hw4]; exact (by repeat (first | (with_reducible exact Ext.refl _) | (with_reducible refine Ext.drewN ?_ _) | (with_reducible refine Ext.drew ?_) | (with_reducible refine Ext.alloc ?_ _) | ((with_reducible refine Ext.setCell ?_ ?_ _); rotate_left; focus (first | (simp; done) | (simp; omega) | omega)) | assumption | (with_reducible refine Ext.trans ?_ (by assumption))))
        have H6 := Lib.hid (show SAt w4 q 72 #[.int .i64 0, .int .i64 0, .int .i64 0, .slice none 0 0] by rw [hw4, hq]; exact (((SAt.new' w _ _ rfl).alloc _).alloc _).alloc _)
        have H7 := Lib.hid (show SAt w4 (q + 1) 72 #[.int .i64 0, .int .i64 0, .int .i64 0, .slice none 0 0] by rw [hw4, hq]; exact ((SAt.new' _ _ _ (by simp)).alloc _).alloc _)
        have H9 := Lib.hid (show SAt w4 (q + 1 + 1) 72 #[.int .i64 5, .int .i64 5, .int .i64 0, .slice a n c] by rw [hw4, hq]; exact (SAt.new' _ _ _ (by simp)).alloc _)
        have H10 := Lib.hid (show SAt w4 (q + 1 + 1 + 1) 72 #[.int .i64 5, .int .i64 5, .int .i64 0, .slice a2 n2 c2] by rw [hw4, hq]; exact SAt.new' _ _ _ (by simp))
        rw [← hw4]
        have hqw : w.heap.size ≤ q := by omega
        clear hw4 hq
        have m0 : ∀ w', PW2 w q 5 a n c a2 n2 c2 w' → w'.cell? ⟨q + 1 + 1, 0, none⟩ = some (.int .i64 5) := fun w' h => (pW_rules h.2.1).1
        have m1 : ∀ w', PW2 w q 5 a n c a2 n2 c2 w' → w'.cell? ⟨q + 1 + 1, 1, none⟩ = some (.int .i64 5) := fun w' h => (pW_rules h.2.1).2.1
        have m2 : ∀ w', PW2 w q 5 a n c a2 n2 c2 w' → w'.cell? ⟨q + 1 + 1, 2, none⟩ = some (.int .i64 0) := fun w' h => (pW_rules h.2.1).2.2.1
        have m3 : ∀ w', PW2 w q 5 a n c a2 n2 c2 w' → w'.cell? ⟨q + 1 + 1, 3, none⟩ = some (.slice a n c) := fun w' h => (pW_rules h.2.1).2.2.2
        have nr0 : ∀ w', PW2 w q 5 a n c a2 n2 c2 w' → w'.cell? ⟨q + 1 + 1 + 1, 0, none⟩ = some (.int .i64 5) := fun w' h => (pW_rules h.2.2).1
        have nr1 : ∀ w', PW2 w q 5 a n c a2 n2 c2 w' → w'.cell? ⟨q + 1 + 1 + 1, 1, none⟩ = some (.int .i64 5) := fun w' h => (pW_rules h.2.2).2.1
        have nr2 : ∀ w', PW2 w q 5 a n c a2 n2 c2 w' → w'.cell? ⟨q + 1 + 1 + 1, 2, none⟩ = some (.int .i64 0) := fun w' h => (pW_rules h.2.2).2.2.1
        have nr3 : ∀ w', PW2 w q 5 a n c a2 n2 c2 w' → w'.cell? ⟨q + 1 + 1 + 1, 3, none⟩ = some (.slice a2 n2 c2) := fun w' h => (pW_rules h.2.2).2.2.2
        have fr6 := fun j => H6.out.frozen j
        have fr7 := fun j => H7.out.frozen j
        have lt6 := H6.out.lt
        have lt7 := H7.out.lt
        have g0 := H6.out.cell 0 (by simp)
        have g1 := H6.out.cell 1 (by simp)
        have g2 := H6.out.cell 2 (by simp)
        have g3 := H6.out.cell 3 (by simp)
        have h0 := H7.out.cell 0 (by simp)
        have h1 := H7.out.cell 1 (by simp)
        have h2 := H7.out.cell 2 (by simp)
        have h3 := H7.out.cell 3 (by simp)
        simp only [List.getElem_toArray, List.getElem_cons_succ, List.getElem_cons_zero] at g0 g1 g2 g3 h0 h1 h2 h3
        go_region_held3 (fun w' => PW2 w q 5 a n c a2 n2 c2 w') ((exact ⟨(by repeat (first | (with_reducible exact Ext.refl _) | (with_reducible assumption) | (with_reducible refine Ext.drewN ?_ _) | (with_reducible refine Ext.drew ?_) | (with_reducible refine Ext.alloc ?_ _) | ((with_reducible refine Ext.setCell ?_ ?_ _); rotate_left; focus (first | (simp; done) | (simp; omega) | omega)) | (with_reducible refine Ext.trans ?_ (by with_reducible assumption)))), (by repeat (first | (with_reducible exact H9.out) | (with_reducible exact H10.out) | (with_reducible refine SAt.drewN ?_ _) | (with_reducible refine SAt.drew ?_) | ((with_reducible refine SAt.other ?_ _ ?_); rotate_left; focus (simp only; omega)))), (by repeat (first | (with_reducible exact H9.out) | (with_reducible exact H10.out) | (with_reducible refine SAt.drewN ?_ _) | (with_reducible refine SAt.drew ?_) | ((with_reducible refine SAt.other ?_ _ ?_); rotate_left; focus (simp only; omega))))⟩)) ((fail))
        go_wp2_with fail
        refine bodyPost_ret (v := .tuple #[.agg #[.int .i64 5, .int .i64 5, .int .i64 0, .slice a n c], .agg #[.int .i64 5, .int .i64 5, .int .i64 0, .slice a2 n2 c2], .bool false]) ?_ rfl ?_
        · simp [results, Try.results94, go_sem, g0, g1, g2, g3, h0, h1, h2, h3]
        · refine ⟨rfl, ?_⟩
          exact (by repeat (first | (with_reducible exact Ext.refl _) | (with_reducible assumption) | (with_reducible refine Ext.drewN ?_ _) | (with_reducible refine Ext.drew ?_) | (with_reducible refine Ext.alloc ?_ _) | ((with_reducible refine Ext.setCell ?_ ?_ _); rotate_left; focus (first | (simp; done) | (simp; omega) | omega)) | (with_reducible refine Ext.trans ?_ (by with_reducible assumption))))
    · have e2 : (b == 2) = false := by simp; omega
      have e3 : (b == 3) = false := by simp; omega
      have e5 : (b == 5) = false := by simp; omega
      clear HP hfine
      go_enter Try.func94, Try.ntmps94
      go_upto_region 4 with fail
      rw [← hq]
      obtain ⟨w4, hw4⟩ : ∃ W, W = (((w.alloc (.cells #[.int .i64 0, .int .i64 0, .int .i64 0, .slice none 0 0] 72)).alloc (.cells #[.int .i64 0, .int .i64 0, .int .i64 0, .slice none 0 0] 72)).alloc (.cells #[.int .i64 b, .int .i64 b, .int .i64 0, .slice a n c] 72)).alloc (.cells #[.int .i64 b, .int .i64 b, .int .i64 0, .slice a2 n2 c2] 72) := ⟨_, rfl⟩
      have hxw4 : Ext w w4 := by rw [hw4]; exact (by repeat (first | (with_reducible exact Ext.refl _) | (with_reducible refine Ext.drewN ?_ _) | (with_reducible refine Ext.drew ?_) | (with_reducible refine Ext.alloc ?_ _) | ((with_reducible refine Ext.setCell ?_ ?_ _); rotate_left; focus (first | (simp; done) | (simp; omega) | omega)) | assumption | (with_reducible refine Ext.trans ?_ (by assumption))))
      have H6 := Lib.hid (show SAt w4 q 72 #[.int .i64 0, .int .i64 0, .int .i64 0, .slice none 0 0] by rw [hw4, hq]; exact (((SAt.new' w _ _ rfl).alloc _).alloc _).alloc _)
      have H7 := Lib.hid (show SAt w4 (q + 1) 72 #[.int .i64 0, .int .i64 0, .int .i64 0, .slice none 0 0] by rw [hw4, hq]; exact ((SAt.new' _ _ _ (by simp)).alloc _).alloc _)
      have H9 := Lib.hid (show SAt w4 (q + 1 + 1) 72 #[.int .i64 b, .int .i64 b, .int .i64 0, .slice a n c] by rw [hw4, hq]; exact (SAt.new' _ _ _ (by simp)).alloc _)
      have H10 := Lib.hid (show SAt w4 (q + 1 + 1 + 1) 72 #[.int .i64 b, .int .i64 b, .int .i64 0, .slice a2 n2 c2] by rw [hw4, hq]; exact SAt.new' _ _ _ (by simp))
      rw [← hw4]
      have hqw : w.heap.size ≤ q := by omega
      clear hw4 hq
      have m0 : ∀ w', PW2 w q b a n c a2 n2 c2 w' → w'.cell? ⟨q + 1 + 1, 0, none⟩ = some (.int .i64 b) := fun w' h => (pW_rules h.2.1).1
      have m1 : ∀ w', PW2 w q b a n c a2 n2 c2 w' → w'.cell? ⟨q + 1 + 1, 1, none⟩ = some (.int .i64 b) := fun w' h => (pW_rules h.2.1).2.1
      have m2 : ∀ w', PW2 w q b a n c a2 n2 c2 w' → w'.cell? ⟨q + 1 + 1, 2, none⟩ = some (.int .i64 0) := fun w' h => (pW_rules h.2.1).2.2.1
      have m3 : ∀ w', PW2 w q b a n c a2 n2 c2 w' → w'.cell? ⟨q + 1 + 1, 3, none⟩ = some (.slice a n c) := fun w' h => (pW_rules h.2.1).2.2.2
      have nr0 : ∀ w', PW2 w q b a n c a2 n2 c2 w' → w'.cell? ⟨q + 1 + 1 + 1, 0, none⟩ = some (.int .i64 b) := fun w' h => (pW_rules h.2.2).1
      have nr1 : ∀ w', PW2 w q b a n c a2 n2 c2 w' → w'.cell? ⟨q + 1 + 1 + 1, 1, none⟩ = some (.int .i64 b) := fun w' h => (pW_rules h.2.2).2.1
      have nr2 : ∀ w', PW2 w q b a n c a2 n2 c2 w' → w'.cell? ⟨q + 1 + 1 + 1, 2, none⟩ = some (.int .i64 0) := fun w' h => (pW_rules h.2.2).2.2.1
      have nr3 : ∀ w', PW2 w q b a n c a2 n2 c2 w' → w'.cell? ⟨q + 1 + 1 + 1, 3, none⟩ = some (.slice a2 n2 c2) := fun w' h => (pW_rules h.2.2).2.2.2
      have fr6 := fun j => H6.out.frozen j
      have fr7 := fun j => H7.out.frozen j
      have lt6 := H6.out.lt
      have lt7 := H7.out.lt
      have g0 := H6.out.cell 0 (by simp)
      have g1 := H6.out.cell 1 (by simp)
      have g2 := H6.out.cell 2 (by simp)
      have g3 := H6.out.cell 3 (by simp)
      have h0 := H7.out.cell 0 (by simp)
      have h1 := H7.out.cell 1 (by simp)
      have h2 := H7.out.cell 2 (by simp)
      have h3 := H7.out.cell 3 (by simp)
      simp only [List.getElem_toArray, List.getElem_cons_succ, List.getElem_cons_zero] at g0 g1 g2 g3 h0 h1 h2 h3
      go_region_held3 (fun w' => PW2 w q b a n c a2 n2 c2 w') ((exact ⟨(by repeat (first | (with_reducible exact Ext.refl _) | (with_reducible assumption) | (with_reducible refine Ext.drewN ?_ _) | (with_reducible refine Ext.drew ?_) | (with_reducible refine Ext.alloc ?_ _) | ((with_reducible refine Ext.setCell ?_ ?_ _); rotate_left; focus (first | (simp; done) | (simp; omega) | omega)) | (with_reducible refine Ext.trans ?_ (by with_reducible assumption)))), (by repeat (first | (with_reducible exact H9.out) | (with_reducible exact H10.out) | (with_reducible refine SAt.drewN ?_ _) | (with_reducible refine SAt.drew ?_) | ((with_reducible refine SAt.other ?_ _ ?_); rotate_left; focus (simp only; omega)))), (by repeat (first | (with_reducible exact H9.out) | (with_reducible exact H10.out) | (with_reducible refine SAt.drewN ?_ _) | (with_reducible refine SAt.drew ?_) | ((with_reducible refine SAt.other ?_ _ ?_); rotate_left; focus (simp only; omega))))⟩)) ((fail))
      go_wp2_with fail
      refine bodyPost_ret (v := .tuple #[.agg #[.int .i64 b, .int .i64 b, .int .i64 0, .slice a n c], .agg #[.int .i64 b, .int .i64 b, .int .i64 0, .slice a2 n2 c2], .bool false]) ?_ rfl ?_
      · simp [results, Try.results94, go_sem, g0, g1, g2, g3, h0, h1, h2, h3]
      · refine ⟨rfl, ?_⟩
        exact (by repeat (first | (with_reducible exact Ext.refl _) | (with_reducible assumption) | (with_reducible refine Ext.drewN ?_ _) | (with_reducible refine Ext.drew ?_) | (with_reducible refine Ext.alloc ?_ _) | ((with_reducible refine Ext.setCell ?_ ?_ _); rotate_left; focus (first | (simp; done) | (simp; omega) | omega)) | (with_reducible refine Ext.trans ?_ (by with_reducible assumption))))
end Go.Proofs.Ytaiieodllhoelaa

/- Walks: the chain of a pair of weightings, in the reference: the chain. -/
namespace Go.Proofs.Ytaiieodllhoelaa
set_option maxRecDepth 100000
open Go.RowKit

set_option maxHeartbeats 4000000 in
theorem spec_PairChain (b : Int) (a : Option Addr) (n c : Nat) (l1 : List Int) (a2 : Option Addr) (n2 c2 : Nat) (l2 : List Int) (w : World) (h1 : Ints w a n c l1) (h2 : Ints w a2 n2 c2 l2) :
    Calls Try.prog 36 #[.int .i64 b, .slice a n c, .slice a2 n2 c2] w (RetChK (pairCh b l1 l2) (pairB b l1 l2) w) := by
  have HI1 := Lib.hid h1
  have HI2 := Lib.hid h2
  have HPr := Lib.hid (fun W (h : Ext w W) => spec_l09Pair b a n c l1 a2 n2 c2 l2 W (h1.ext h) (h2.ext h))
  clear h1 h2
  cases hok : pairB b l1 l2
  · rw [hok] at HPr
    have HNo := Lib.hid (show pairCh b l1 l2 = zCh by unfold pairCh; rw [hok]; rfl)
    rw [HNo.out]
    clear hok
    obtain ⟨q, hq⟩ : ∃ q, q = w.heap.size := ⟨_, rfl⟩
    have hqw : w.heap.size ≤ q := by omega
    go_enter Try.func36, Try.ntmps36
    obtain ⟨wz, hwz⟩ : ∃ W, W = w.alloc (.cells #[.int .i64 0, .int .i64 0, .int .i64 0, .int .i64 0, .slice none 0 0, .slice none 0 0] 27) := ⟨_, rfl⟩
    have hxz : Ext w wz := by rw [hwz]; exact (by repeat (first | (with_reducible exact Ext.refl _) | (with_reducible refine Ext.drewN ?_ _) | (with_reducible refine Ext.drew ?_) | (with_reducible refine Ext.alloc ?_ _) | ((with_reducible refine Ext.setCell ?_ ?_ _); rotate_left; focus (first | (simp; done) | (simp; omega) | omega)) | assumption | (with_reducible refine Ext.trans ?_ (by assumption))))
    have HZ := Lib.hid (show SAt wz q 27 #[.int .i64 0, .int .i64 0, .int .i64 0, .int .i64 0, .slice none 0 0, .slice none 0 0] from by rw [hwz, hq]; exact SAt.new' _ _ _ rfl)
    go_wp2_with fail
    rw [← hwz, ← hq]
    clear hwz hq
    go_upto_region 2 with ((with_reducible refine (HPr.out _ hxz).mono ?_); rintro e w1 ⟨rfl, hy1⟩; have hx1 : Ext wz w1 := hy1; clear hy1)
    obtain ⟨q8, hq8⟩ : ∃ x, x = w1.heap.size := ⟨_, rfl⟩
    obtain ⟨w3, hw3⟩ : ∃ W, W = (w1.alloc (.cells #[.int .i64 b, .int .i64 b, .int .i64 0, .slice a n c] 72)).alloc (.cells #[.int .i64 b, .int .i64 b, .int .i64 0, .slice a2 n2 c2] 72) := ⟨_, rfl⟩
    have hx13 : Ext w1 w3 := by rw [hw3]; exact (by repeat (first | (with_reducible exact Ext.refl _) | (with_reducible refine Ext.drewN ?_ _) | (with_reducible refine Ext.drew ?_) | (with_reducible refine Ext.alloc ?_ _) | ((with_reducible refine Ext.setCell ?_ ?_ _); rotate_left; focus (first | (simp; done) | (simp; omega) | omega)) | assumption | (with_reducible refine Ext.trans ?_ (by assumption))))
    have hxw3 : Ext w w3 := hxz.trans (hx1.trans hx13)
    have HZ3 := Lib.hid (HZ.out.ext (hx1.trans hx13))
    have HS8 := Lib.hid (show SAt w3 q8 72 #[.int .i64 b, .int .i64 b, .int .i64 0, .slice a n c] by rw [hw3, hq8]; exact (SAt.new' _ _ _ rfl).alloc _)
    have HS9 := Lib.hid (show SAt w3 (q8 + 1) 72 #[.int .i64 b, .int .i64 b, .int .i64 0, .slice a2 n2 c2] by rw [hw3, hq8]; exact SAt.new' _ _ _ (by simp))
    rw [← hq8, ← hw3]
    clear hw3 hq8 hx13
    have z0 := HZ3.out.cell 0 (by simp)
    have z1 := HZ3.out.cell 1 (by simp)
    have z2 := HZ3.out.cell 2 (by simp)
    have z3 := HZ3.out.cell 3 (by simp)
    have z4 := HZ3.out.cell 4 (by simp)
    have z5 := HZ3.out.cell 5 (by simp)
    have fr := fun j => HZ3.out.frozen j
    have hltz := HZ3.out.lt
    try simp only [List.getElem_toArray, List.getElem_cons_succ, List.getElem_cons_zero] at z0 z1 z2 z3 z4 z5
    go_wp2_with fail
    refine bodyPost_ret (v := .tuple #[.agg #[.int .i64 0, .int .i64 0, .int .i64 0, .int .i64 0, .slice none 0 0, .slice none 0 0], .bool false]) ?_ rfl ?_
    · simp [results, Try.results36, go_sem, z0, z1, z2, z3, z4, z5]
    · refine ⟨none, 0, 0, none, 0, 0, rfl, zCh_in _, ?_⟩
      repeat (first | with_reducible exact hxw3 | with_reducible refine Ext.setCell ?_ hqw _)
  · rw [hok] at HPr
    have hfit := pair_fit hok
    have hvv : validB (pW b l1) = true ∧ validB (pW b l2) = true := by unfold pairB at hok; simp only [Bool.and_eq_true] at hok; exact hok.2
    have HCh := Lib.hid (show pairCh b l1 l2 = joinCh (wtCh (pW b l1)) (wtCh (pW b l2)) by unfold pairCh; rw [if_pos hok])
    have hv1 : validCh (wtCh (pW b l1)) = true := addCh_valid (validB_addOk hvv.1)
    have hv2 : validCh (wtCh (pW b l2)) = true := addCh_valid (validB_addOk hvv.2)
    have HW := Lib.hid (fun W q (h : IsWt W q (pW b l1) a n c) => spec_l03Weights q (pW b l1) a n c W h hvv.1)
    have HW2 := Lib.hid (fun W q (h : IsWt W q (pW b l2) a2 n2 c2) => spec_l03Weights q (pW b l2) a2 n2 c2 W h hvv.2)
    have HFit := Lib.hid hfit
    have HV1 := Lib.hid hv1
    have HV2 := Lib.hid hv2
    rw [HCh.out]
    clear hok hfit hvv hv1 hv2
    generalize hD1 : wtCh (pW b l1) = D1 at *
    generalize hD2 : wtCh (pW b l2) = D2 at *
    clear hD1 hD2
    obtain ⟨DD, hDD⟩ : ∃ x, x = joinCh D1 D2 := ⟨_, rfl⟩
    have HDD := Lib.hid hDD
    rw [← hDD]
    clear hDD
    obtain ⟨q, hq⟩ : ∃ q, q = w.heap.size := ⟨_, rfl⟩
    have hqw : w.heap.size ≤ q := by omega
    go_enter Try.func36, Try.ntmps36
    obtain ⟨wz, hwz⟩ : ∃ W, W = w.alloc (.cells #[.int .i64 0, .int .i64 0, .int .i64 0, .int .i64 0, .slice none 0 0, .slice none 0 0] 27) := ⟨_, rfl⟩
    have hxz : Ext w wz := by rw [hwz]; exact (by repeat (first | (with_reducible exact Ext.refl _) | (with_reducible refine Ext.drewN ?_ _) | (with_reducible refine Ext.drew ?_) | (with_reducible refine Ext.alloc ?_ _) | ((with_reducible refine Ext.setCell ?_ ?_ _); rotate_left; focus (first | (simp; done) | (simp; omega) | omega)) | assumption | (with_reducible refine Ext.trans ?_ (by assumption))))
    have HZ := Lib.hid (show SAt wz q 27 #[.int .i64 0, .int .i64 0, .int .i64 0, .int .i64 0, .slice none 0 0, .slice none 0 0] from by rw [hwz, hq]; exact SAt.new' _ _ _ rfl)
    go_wp2_with fail
    rw [← hwz, ← hq]
    clear hwz hq
    go_upto_region 2 with ((with_reducible refine (HPr.out _ hxz).mono ?_); rintro e w1 ⟨rfl, hy1⟩; have hx1 : Ext wz w1 := hy1; clear hy1)
    obtain ⟨q8, hq8⟩ : ∃ x, x = w1.heap.size := ⟨_, rfl⟩
    obtain ⟨w3, hw3⟩ : ∃ W, W = (w1.alloc (.cells #[.int .i64 b, .int .i64 b, .int .i64 0, .slice a n c] 72)).alloc (.cells #[.int .i64 b, .int .i64 b, .int .i64 0, .slice a2 n2 c2] 72) := ⟨_, rfl⟩
    have hx13 : Ext w1 w3 := by rw [hw3]; exact (by repeat (first | (with_reducible exact Ext.refl _) | (with_reducible refine Ext.drewN ?_ _) | (with_reducible refine Ext.drew ?_) | (with_reducible refine Ext.alloc ?_ _) | ((with_reducible refine Ext.setCell ?_ ?_ _); rotate_left; focus (first | (simp; done) | (simp; omega) | omega)) | assumption | (with_reducible refine Ext.trans ?_ (by assumption))))
    have hxw3 : Ext w w3 := hxz.trans (hx1.trans hx13)
    have HZ3 := Lib.hid (HZ.out.ext (hx1.trans hx13))
    have HS8 := Lib.hid (show SAt w3 q8 72 #[.int .i64 b, .int .i64 b, .int .i64 0, .slice a n c] by rw [hw3, hq8]; exact (SAt.new' _ _ _ rfl).alloc _)
    have HS9 := Lib.hid (show SAt w3 (q8 + 1) 72 #[.int .i64 b, .int .i64 b, .int .i64 0, .slice a2 n2 c2] by rw [hw3, hq8]; exact SAt.new' _ _ _ (by simp))
    rw [← hq8, ← hw3]
    clear hw3 hq8 hx13
    have hq3 := HZ3.out.lt
    have HA8 := Lib.hid (pW_is HS8.out (HI1.out.ext hxw3))
    have HA9 := Lib.hid (pW_is HS9.out (HI2.out.ext hxw3))
    go_wp2_with (first | (go_at_call 96; first | ((with_reducible refine (HW.out _ q8 HA8.out).mono ?_); rintro e w4 ⟨a4, x4, c4, b4, y4, d4, rfl, hch4, hy4⟩; have HC4 := Lib.hid (hch4 _ (KeepB.refl _ _ _)); have HA9' := Lib.hid (HA9.out.ext hy4); have hx4 : Ext w3 w4 := hy4; clear hch4 hy4) | ((with_reducible refine (HW2.out _ (q8 + 1) HA9'.out).mono ?_); rintro e w5 ⟨a5, x5, c5, b5, y5, d5, rfl, hch5, hy5⟩; have HC5 := Lib.hid (hch5 _ (KeepB.refl _ _ _)); have HC4' := Lib.hid (HC4.out.ext hy5); have hx5 : Ext w3 w5 := hx4.trans hy5; have hyy : y5 = y4 := (by have h1 := HC4.out.ps.len; have h2 := HC5.out.ps.len; have h3 := HFit.out.l; omega); subst hyy; clear hch5 hy5)) | (go_at_call 95; (with_reducible refine (spec_JoinYes D1 D2 _ _ _ _ _ _ _ _ _ _ _ _ HC4'.out HC5.out HFit.out HV1.out HV2.out).mono ?_); rintro e w9 ⟨a9, x9, c9, b9, y9, d9, rfl, hch9, hy9⟩; rw [← HDD.out] at hch9 ⊢; have hle9 : w3.heap.size ≤ w5.heap.size := hx5.le; have HC9 := Lib.hid hch9; have hx9 : Ext w3 w9 := hx5.trans hy9; have HZ9 := Lib.hid (HZ3.out.ext hx9); have g0 := HZ9.out.cell 0 (by simp); have g1 := HZ9.out.cell 1 (by simp); have g2 := HZ9.out.cell 2 (by simp); have g3 := HZ9.out.cell 3 (by simp); have g4 := HZ9.out.cell 4 (by simp); have g5 := HZ9.out.cell 5 (by simp); have fr9 := fun j => HZ9.out.frozen j; have lt9 := HZ9.out.lt; (try simp only [List.getElem_toArray, List.getElem_cons_succ, List.getElem_cons_zero] at g0 g1 g2 g3 g4 g5); clear hch9 hy9))
    refine bodyPost_ret (v := .tuple #[.agg #[.int .i64 DD.base, .int .i64 DD.states, .int .i64 DD.start, .int .i64 DD.fin, .slice a9 x9 c9, .slice b9 y9 d9], .bool true]) ?_ rfl ?_
    · simp [results, Try.results36, go_sem, g0, g1, g2, g3, g4, g5]
    · have hfin : ∀ W, KeepB w5.heap.size w9.heap.size w9 W → Ext w W → RetChK DD true w (.returned (.tuple #[.agg #[.int .i64 DD.base, .int .i64 DD.states, .int .i64 DD.start, .int .i64 DD.fin, .slice a9 x9 c9, .slice b9 y9 d9], .bool true])) W := fun W hk hx =>
        ⟨a9, x9, c9, b9, y9, d9, rfl, HC9.out W hk, hx⟩
      have hq5 : q < w5.heap.size := by omega
      have hxw9 : Ext w w9 := hxw3.trans hx9
      refine hfin _ ?_ ?_
      · repeat (first | with_reducible exact KeepB.refl _ _ _ | (with_reducible refine KeepB.setB ?_ _ _ (Or.inl ?_); rotate_left; (focus (simp only; omega))))
      · repeat (first | with_reducible exact hxw9 | with_reducible refine Ext.setCell ?_ hqw _)
end Go.Proofs.Ytaiieodllhoelaa

/- Walks: the least distance of checked words, in the reference. -/
namespace Go.Proofs.Ytaiieodllhoelaa
set_option maxRecDepth 100000
open Go.RowKit

theorem und_boolS : Try.prog.underlying 152 = some (.slice 4) := Try.underlying152
theorem cell_boolS : Try.prog.cellsOf 4 = 1 := by kernel_rfl
theorem info_boolS : (Try.prog.info? 4).map (fun i => (i.zero, i.size, i.bytes)) = some (some (.bool false), 1, 1) := by kernel_rfl
def BR (vs : List Value) (S : Nat) (E : Nat → Bool) : Prop := vs.length = S ∧ ∀ z, z < S → gv vs z = .bool (E z)
theorem BR.zero (S : Nat) : BR (List.replicate S (Value.bool false)) S fun _ => false := ⟨List.length_replicate .., fun z hz => by simp [gv, hz]⟩
theorem BR.set {vs : List Value} {S z : Nat} {E : Nat → Bool} (h : BR vs S E) (hz : z < S) : BR (vs.set z (.bool true)) S fun y => if y = z then true else E y :=
  ⟨by rw [List.length_set]; exact h.1, fun y hy => by
    by_cases e : y = z
    · subst e; rw [gv_set_eqQ (by rw [h.1]; exact hy)]; simp
    · rw [gv_set_neQ (fun h => e h.symm), h.2 y hy]; simp [e]⟩
theorem idx_wrap {N S x y : Nat} (hN : N = S * S) (hS : S ≤ 36) (hx : x < S) (hy : y < S) : ∃ P Q : Nat, P = x * S ∧ Q = x * S + y ∧ Q < N ∧ IntKind.i64.wrap ((x : Int) * (S : Int)) = (P : Int) ∧ IntKind.i64.wrap ((P : Int) + (y : Int)) = (Q : Int) := by
  have h1 := idx_lt hx hy
  have h2 : S * S ≤ 36 * 36 := Nat.mul_le_mul hS hS
  refine ⟨_, _, rfl, rfl, by rw [hN]; exact h1, ?_, ?_⟩
  · rw [← Int.natCast_mul, IntKind.wrap_i64]; omega
  · rw [IntKind.wrap_i64]; omega
/-- a row of numbers and a row of truths of the call's own -/
structure LdY (wo wr : World) (g10 g12 N S : Nat) (ll : List Int) (vs : List Value) (E : Nat → Bool) : Prop where
  rowL : Own wr wo.heap.size 2 (some ⟨g10, 0, none⟩) N N (I ll)
  rowB : Own wr wo.heap.size 4 (some ⟨g12, 0, none⟩) S S vs
  br : BR vs S E
  ne : g10 ≠ g12
  ext' : Ext wo wr
section
variable {wo wr w5 : World} {g10 g12 N S : Nat} {ll : List Int} {vs : List Value} {E : Nat → Bool}
theorem LdY.ext (h : LdY wo wr g10 g12 N S ll vs E) (hx : Ext wr w5) : LdY wo w5 g10 g12 N S ll vs E := ⟨h.rowL.ext hx, h.rowB.ext hx, h.br, h.ne, h.ext'.trans hx⟩
theorem LdY.ln (h : LdY wo wr g10 g12 N S ll vs E) : ll.length = N := (I_len ll).symm.trans h.rowL.len
theorem LdY.setL (h : LdY wo wr g10 g12 N S ll vs E) (p : Nat) (v : Int) : LdY wo (wr.setCell ⟨g10, p, none⟩ (.int .i64 v)) g10 g12 N S (ll.set p v) vs E :=
  ⟨by rw [← I_set]; exact h.rowL.set p _, own_beside h.rowB p _ (fun e => h.ne e.symm), h.br, h.ne, Ext.setCell h.ext' h.rowL.lt.1 _⟩
theorem LdY.setB (h : LdY wo wr g10 g12 N S ll vs E) {z : Nat} (hz : z < S) : LdY wo (wr.setCell ⟨g12, z, none⟩ (.bool true)) g10 g12 N S ll (vs.set z (.bool true)) (fun y => if y = z then true else E y) :=
  ⟨own_beside h.rowL z _ h.ne, h.rowB.set z _, h.br.set hz, h.ne, Ext.setCell h.ext' h.rowB.lt.1 _⟩
end
set_option maxHeartbeats 8000000 in
theorem spec_LeastDistance (D : Ch) (a : Option Addr) (n c : Nat) (a' : Option Addr) (n' c' : Nat) (w : World) (hv : ChIn w D a n c a' n' c') (hval : validCh D = true) :
    Calls Try.prog 101 #[.agg #[.int .i64 D.base, .int .i64 D.states, .int .i64 D.start, .int .i64 D.fin, .slice a n c, .slice a' n' c']] w (RetPD (LsT D D.places.length D.fin D.fin) w) := by
  have HB := Lib.hid (hv.box 27)
  have hok := validCh_ok hval
  have HP := Lib.hid hv.ps.len
  have HVal := Lib.hid (fun W q (h : ChAt W q D a n c a' n' c') => spec_l02Is D a n c a' n' c' q W h hv.hn hv.hn' hv.sm)
  rw [hval] at HVal
  have HOK := Lib.hid hok
  have p20 := hok.p20
  rw [HP.out] at p20
  have b2 := hok.b2
  have b36 := hok.b36
  have hS36 := hok.s36
  obtain ⟨S, hS⟩ := Int.eq_ofNat_of_zero_le (show 0 ≤ D.states by have := hok.s1; omega)
  obtain ⟨e, he⟩ := Int.eq_ofNat_of_zero_le hok.en0
  obtain ⟨st, hst⟩ := Int.eq_ofNat_of_zero_le hok.st0
  obtain ⟨bs, hbs⟩ := Int.eq_ofNat_of_zero_le (show 0 ≤ D.base by omega)
  have heS : e < S := by have := hok.en1; omega
  have hstS : st < S := by have := hok.st1; omega
  have hS36' : S ≤ 36 := by omega
  have hbs' : bs ≤ 36 := by omega
  have HNx := Lib.hid (fun (i x d : Nat) (hi : i < n') (hx : x < S) (hd : d < bs) => hok.next (p := i) (x := x) (d := d) (by omega) (by rw [HP.out]; omega) (by omega) (by omega) (by omega) (by omega))
  have HhS := Lib.hid hS; clear hS; have Hhe := Lib.hid he; clear he; have Hhst := Lib.hid hst; clear hst; have Hhbs := Lib.hid hbs; clear hbs; have HhS36 := Lib.hid hS36; clear hS36
  clear hv hval hok
  go_enter Try.func101, Try.ntmps101
  go_wp2_with fail
  obtain ⟨wb, hwb⟩ : ∃ wb, wb = w.alloc (.cells #[.int .i64 D.base, .int .i64 D.states, .int .i64 D.start, .int .i64 D.fin, .slice a n c, .slice a' n' c'] 27) := ⟨_, rfl⟩
  have hxb : Ext w wb := by rw [hwb]; exact (by repeat (first | (with_reducible exact Ext.refl _) | (with_reducible refine Ext.drewN ?_ _) | (with_reducible refine Ext.drew ?_) | (with_reducible refine Ext.alloc ?_ _) | ((with_reducible refine Ext.setCell ?_ ?_ _); rotate_left; focus (first | (simp; done) | (simp; omega) | omega)) | assumption | (with_reducible refine Ext.trans ?_ (by assumption))))
  rw [← hwb] at HB ⊢
  generalize w.heap.size = q at *
  clear hwb
  refine (HVal.out _ q HB.out).mono ?_
  rintro e' w1 ⟨rfl, hx1⟩
  have HB1 := Lib.hid (HB.out.ext hx1)
  have hxw1 : Ext w w1 := hxb.trans hx1
  obtain ⟨k0, k1, k2, k3, k4, k5, _, _⟩ := HB1.out
  simp only [HhS.out] at k1
  simp only [Hhst.out] at k2
  simp only [Hhe.out] at k3
  simp only [Hhbs.out] at k0
  obtain ⟨N, hN⟩ : ∃ N, N = S * S := ⟨_, rfl⟩
  have hN1 : N ≤ 1296 := by rw [hN]; exact Nat.le_trans (Nat.mul_le_mul hS36' hS36') (by decide)
  have hNi : (S : Int) * (S : Int) = (N : Int) := by rw [hN, Int.natCast_mul]
  have hwN : IntKind.i64.wrap ((S : Int) * (S : Int)) = (N : Int) := by rw [hNi, IntKind.wrap_i64]; omega
  have HN := Lib.hid hN
  clear hN hxb hx1 HB HVal
  have hw11 : Ext w1 w1 := Ext.refl _
  go_wp2_with (at_make; refine law_make _ rfl _ _ 25 rfl 2 (.int .i64 0) 8 und_int64s info_int64 rfl _ _ N rfl rfl (by omega) (by unfold maxLen; omega) ?_; intro w2 hown2 hx2 hsz2)
  obtain ⟨g6, hg6⟩ : ∃ g, g = w1.heap.size := ⟨_, rfl⟩
  rw [← hg6] at hown2 ⊢
  have hg6w : w1.heap.size ≤ g6 := by omega
  have HO2 := Lib.hid (show Own w2 g6 2 (some ⟨g6, 0, none⟩) N N (I (List.replicate N 0)) by rw [I_replicate]; exact hown2)
  clear hown2 hsz2 hg6
  go_wp2_with fail
  go_loopw [7] (fun v7 wr => ∃ (k : Nat) (ll : List Int), k ≤ N ∧ v7 = .int .i64 k ∧ Hid (Own wr g6 2 (some ⟨g6, 0, none⟩) N N (I ll)) ∧ Hid (∀ p, p < k → gi ll p = (n' : Int) + 1) ∧ Ext w1 wr) (fun v7 _ => N - (intOf v7).toNat)
  case atStart => exact ⟨0, _, Nat.zero_le _, rfl, HO2, Lib.hid (fun p hp => by omega), hx2⟩
  case round =>
    clear HO2 hx2
    obtain ⟨k, ll, hk, rfl, HO, HF, hxr⟩ := hrel
    have hln : ll.length = N := (I_len ll).symm.trans HO.out.len
    by_cases hlk : k < N
    · obtain ⟨hia, hce, hfr⟩ := HO.out.at (P := Try.prog) 25 und_int64s cell_int64 k hlk .i64
      obtain ⟨y6, hy6⟩ : ∃ y, y = (I ll).getD k undef := ⟨_, rfl⟩
      rw [← hy6] at hce
      clear hy6
      have hxs : Ext w1 (wr.setCell ⟨g6, k, none⟩ (.int .i64 ((n' : Int) + 1))) := Ext.setCell hxr hg6w _
      go_wp2_with fail
      exact ⟨⟨k + 1, _, by omega, by go_num, Lib.hid (by rw [← I_set]; exact HO.out.set k _), Lib.hid (fun p hp => by
        by_cases e : p = k
        · subst e; unfold gi; rw [List.getD_eq_getElem?_getD, List.getElem?_set_self (by omega)]; rfl
        · rw [gi_set_ne (fun h => e h.symm)]; exact HF.out p (by omega)), hxs⟩, by simp [intOf]; omega⟩
    · obtain rfl : N = k := by omega
      go_wp2_with (at_make; refine law_make _ rfl _ _ 152 rfl 4 (.bool false) 1 und_boolS info_boolS rfl _ _ S rfl rfl (by omega) (by unfold maxLen; omega) ?_; intro w3 hown3 hx3 hsz3; have hxw3 : Ext w1 w3 := hxr.trans hx3; obtain ⟨hia, hce, hfr⟩ := hown3.at (P := Try.prog) 152 und_boolS cell_boolS st hstS .i64; obtain ⟨y6, hy6⟩ : ∃ y, y = (List.replicate S (Value.bool false)).getD st undef := ⟨_, rfl⟩; rw [← hy6] at hce; have HO3 := Lib.hid hown3; have hxs : Ext w1 (w3.setCell ⟨wr.heap.size, st, none⟩ (.bool true)) := Ext.setCell hxw3 hxr.le _; clear hy6 hown3 hsz3)
      have HOg := Lib.hid (show Own (w3.setCell ⟨wr.heap.size, st, none⟩ (.bool true)) w1.heap.size 2 (some ⟨g6, 0, none⟩) N N (I ll) from (own_beside (HO.out.ext hx3) st _ (by have := HO.out.lt; omega)).mono hg6w)
      have HOe := Lib.hid (show Own (w3.setCell ⟨wr.heap.size, st, none⟩ (.bool true)) w1.heap.size 4 (some ⟨wr.heap.size, 0, none⟩) S S ((List.replicate S (Value.bool false)).set st (.bool true)) from (HO3.out.set st _).mono hxr.le)
      have HBr := Lib.hid (BR.set (BR.zero S) (z := st) (by omega))
      have HE0 : Hid (∀ z, z < S → ((if z = st then true else false) = true ↔ EqT D 0 z)) := Lib.hid (fun z hz => by
        have h := Hhst.out
        show _ ↔ ((z : Nat) : Int) = D.start
        rw [h]
        by_cases e : z = st
        · rw [if_pos e]; exact ⟨fun _ => by omega, fun _ => rfl⟩
        · rw [if_neg e]; exact ⟨fun h => (by cases h), fun h => absurd (by omega) e⟩)
      have HL0 : Hid (∀ x, x < S → ∀ y, y < S → IsMin (gi ll (x * S + y)) ((n' : Int) + 1) (LsT D 0 x y)) := Lib.hid (fun x hx y hy => by
        rw [HF.out _ (by rw [HN.out]; exact idx_lt hx hy)]; exact IsMin.none _ fun _ h => h)
      clear HO HO3 hia hce hfr hx3 hxw3 hlk
      generalize hg8 : wr.heap.size = g8 at *
      clear hg8
      generalize w3.setCell ⟨g8, st, none⟩ (.bool true) = w4 at *
      generalize (List.replicate S (Value.bool false)).set st (.bool true) = vs0 at *
      go_loopw [6, 8, 9] (fun v6 v8 v9 wr => ∃ (i gl ge : Nat) (ll : List Int) (vs : List Value) (E : Nat → Bool), i ≤ n' ∧ v9 = .int .i64 i ∧ v6 = .slice (some ⟨gl, 0, none⟩) N N ∧ v8 = .slice (some ⟨ge, 0, none⟩) S S ∧ Hid (Own wr w1.heap.size 2 (some ⟨gl, 0, none⟩) N N (I ll)) ∧ Hid (Own wr w1.heap.size 4 (some ⟨ge, 0, none⟩) S S vs) ∧ Hid (BR vs S E) ∧ Hid (∀ z, z < S → (E z = true ↔ EqT D i z)) ∧ Hid (∀ x, x < S → ∀ y, y < S → IsMin (gi ll (x * S + y)) ((n' : Int) + 1) (LsT D i x y)) ∧ Ext w1 wr) (fun _ _ v9 _ => n' - (intOf v9).toNat)
      case atStart => exact ⟨0, g6, g8, _, _, _, Nat.zero_le _, rfl, rfl, rfl, HOg, HOe, HBr, HE0, HL0, hxs⟩
      case round =>
        clear HOg HOe HBr HE0 HL0 hxs hxr hg6w HF hln hk
        obtain ⟨i, gl, ge, ll, vs, E, hi, rfl, rfl, rfl, HRl, HRb, HBr, HEo, HLo, hxo⟩ := hrel
        by_cases hli : i < n'
        · obtain ⟨wo, hwo⟩ : ∃ W, W = wr := ⟨_, rfl⟩
          rw [← hwo] at HRl HRb hxo ⊢
          clear hwo
          go_wp2_with (at_make; refine law_make _ rfl _ _ 25 rfl 2 (.int .i64 0) 8 und_int64s info_int64 rfl _ _ N rfl rfl (by omega) (by unfold maxLen; omega) ?_; intro w5 hown5 hx5 hsz5)
          obtain ⟨g10, hg10⟩ : ∃ g, g = wo.heap.size := ⟨_, rfl⟩
          rw [← hg10] at hown5 ⊢
          have hg10w : wo.heap.size ≤ g10 := by omega
          have HO5 := Lib.hid (show Own w5 g10 2 (some ⟨g10, 0, none⟩) N N (I (List.replicate N 0)) by rw [I_replicate]; exact hown5)
          clear hown5 hsz5 hg10
          go_wp2_with fail
          go_loopw [11] (fun v11 wr => ∃ (k : Nat) (l2 : List Int), k ≤ N ∧ v11 = .int .i64 k ∧ Hid (Own wr g10 2 (some ⟨g10, 0, none⟩) N N (I l2)) ∧ Hid (∀ p, p < k → gi l2 p = (n' : Int) + 1) ∧ Ext wo wr) (fun v11 _ => N - (intOf v11).toNat)
          case atStart => exact ⟨0, _, Nat.zero_le _, rfl, HO5, Lib.hid (fun p hp => by omega), hx5⟩
          case round =>
            clear HO5 hx5
            obtain ⟨k, l2, hk, rfl, HO, HF, hxr⟩ := hrel
            have hln : l2.length = N := (I_len l2).symm.trans HO.out.len
            have hxwr : Ext w1 wr := hxo.trans hxr
            by_cases hlk : k < N
            · obtain ⟨hia, hce, hfr⟩ := HO.out.at (P := Try.prog) 25 und_int64s cell_int64 k hlk .i64
              obtain ⟨y6, hy6⟩ : ∃ y, y = (I l2).getD k undef := ⟨_, rfl⟩
              rw [← hy6] at hce
              clear hy6
              have hxs : Ext wo (wr.setCell ⟨g10, k, none⟩ (.int .i64 ((n' : Int) + 1))) := Ext.setCell hxr hg10w _
              go_wp2_with fail
              exact ⟨⟨k + 1, _, by omega, by go_num, Lib.hid (by rw [← I_set]; exact HO.out.set k _), Lib.hid (fun p hp => by
                by_cases e : p = k
                · subst e; unfold gi; rw [List.getD_eq_getElem?_getD, List.getElem?_set_self (by omega)]; rfl
                · rw [gi_set_ne (fun h => e h.symm)]; exact HF.out p (by omega)), hxs⟩, by simp [intOf]; omega⟩
            · obtain rfl : N = k := by omega
              go_wp2_with (at_make; refine law_make _ rfl _ _ 152 rfl 4 (.bool false) 1 und_boolS info_boolS rfl _ _ S rfl rfl (by omega) (by unfold maxLen; omega) ?_; intro w6 hown6 hx6 hsz6; have hxw6 : Ext w1 w6 := hxwr.trans hx6)
              obtain ⟨g12, hg12⟩ : ∃ g, g = wr.heap.size := ⟨_, rfl⟩
              rw [← hg12] at hown6 ⊢
              have HY0 := Lib.hid (show LdY wo w6 g10 g12 N S l2 (List.replicate S (Value.bool false)) (fun _ => false) from ⟨(HO.out.ext hx6).mono hg10w, hown6.mono (by have := hxr.le; omega), BR.zero S, by have := HO.out.lt; omega, hxr.trans hx6⟩)
              have HIL0 := Lib.hid (invL0 (D := D) (i := i) (bs := bs) (by rw [← HN.out]; exact hln) (fun p hp => HF.out p (by rw [HN.out]; exact hp)))
              have HIE0 := Lib.hid (invE0 (D := D) (i := i) (S := S) (bs := bs))
              clear hown6 hsz6 hg12 HO HF hx6 hxr hxwr hxw6 hln hlk hk hg10w
              go_loopw [13] (fun v13 wr => ∃ (x : Nat) (l2 : List Int) (vs2 : List Value) (E2 : Nat → Bool), x ≤ S ∧ v13 = .int .i64 x ∧ Hid (LdY wo wr g10 g12 N S l2 vs2 E2) ∧ Hid (InvL D i S bs ((n' : Int) + 1) x 0 0 0 l2) ∧ Hid (InvE D i S bs x 0 0 E2)) (fun v13 _ => S - (intOf v13).toNat)
              case atStart => exact ⟨0, _, _, _, Nat.zero_le _, rfl, HY0, HIL0, HIE0⟩
              case round =>
                clear HY0 HIL0 HIE0
                obtain ⟨x, l2, vs2, E2, hx, rfl, HY, HIL, HIE⟩ := hrel
                have hxoy := HY.out.ext'
                have hxw : Ext w1 wr := hxo.trans hxoy
                by_cases hlx : x < S
                · go_wp2_with fail
                  go_loopw [14] (fun v14 wr => ∃ (y : Nat) (l2 : List Int) (vs2 : List Value) (E2 : Nat → Bool), y ≤ S ∧ v14 = .int .i64 y ∧ Hid (LdY wo wr g10 g12 N S l2 vs2 E2) ∧ Hid (InvL D i S bs ((n' : Int) + 1) x y 0 0 l2) ∧ Hid (InvE D i S bs x y 0 E2)) (fun v14 _ => S - (intOf v14).toNat)
                  case atStart => exact ⟨0, _, _, _, Nat.zero_le _, rfl, HY, HIL, HIE⟩
                  case round =>
                    clear HY HIL HIE hxoy hxw
                    obtain ⟨y, l2, vs2, E2, hy, rfl, HY, HIL, HIE⟩ := hrel
                    have hxoy := HY.out.ext'
                    have hxw : Ext w1 wr := hxo.trans hxoy
                    by_cases hly : y < S
                    · obtain ⟨P1, Q1', hP1, hQ1, hQN, hwp1, hwq1⟩ := idx_wrap HN.out hS36' hlx hly
                      obtain ⟨hiaL, hceL, _⟩ := HRl.out.at (P := Try.prog) 25 und_int64s cell_int64 Q1' hQN .i64
                      have HVm := HLo.out x hlx y hly
                      rw [I_getD _ _ (by rw [← I_len ll, HRl.out.len]; exact hQN)] at hceL
                      rw [← hQ1] at HVm
                      have HVm := Lib.hid HVm
                      change wo.cell? ⟨gl, Q1', none⟩ = some (.int .i64 (gi ll Q1')) at hceL
                      generalize gi ll Q1' = v at HVm hceL
                      have cL : ∀ W, Ext wo W → W.cell? ⟨gl, Q1', none⟩ = some (.int .i64 v) := fun W h => h.cell hceL
                      have HLf : Hid (∀ d, LsT D i x y d → (d : Int) < (n' : Int) + 1) := Lib.hid (fun d hd => by have := (LsT.bd D HOK.out i x y d (by rw [HP.out]; omega) hd).2.2; omega)
                      obtain ⟨hiaE, hceE, _⟩ := HRb.out.at (P := Try.prog) 152 und_boolS cell_boolS x hlx .i64
                      rw [show vs.getD x undef = .bool (E x) from HBr.out.2 x hlx] at hceE
                      clear hP1 hQ1 hceL
                      by_cases hxy : x = y
                      · have hb1 : ((x : Int) == (y : Int)) = true := by simp; omega
                        have HXY := Lib.hid hxy
                        clear hxy
                        cases hEx : E x with
                        | true =>
                          rw [hEx] at hceE
                          have cE : ∀ W, Ext wo W → W.cell? ⟨ge, x, none⟩ = some (.bool true) := fun W h => h.cell hceE
                          clear hceE
                          have hxw : Ext w1 wr := hxo.trans hxoy
                          have hne0 : ((0 : Int) == (n' : Int) + 1) = false := by simp; omega
                          have HEq := Lib.hid ((HEo.out x hlx).1 hEx)
                          clear hEx
                          go_wp2_with fail
                          go_loopw [16] (fun v16 wr => ∃ (d : Nat) (l2 : List Int) (vs2 : List Value) (E2 : Nat → Bool), d ≤ bs ∧ v16 = .int .i64 d ∧ Hid (LdY wo wr g10 g12 N S l2 vs2 E2) ∧ Hid (InvL D i S bs ((n' : Int) + 1) x y d 0 l2) ∧ Hid (InvE D i S bs x y d E2)) (fun v16 _ => bs - (intOf v16).toNat)
                          case atStart => exact ⟨0, _, _, _, Nat.zero_le _, rfl, HY, HIL, HIE⟩
                          case round =>
                            clear HY HIL HIE hxoy hxw
                            obtain ⟨d, l2, vs2, E2, hd, rfl, HY, HIL, HIE⟩ := hrel
                            have hxoy := HY.out.ext'
                            have hxw : Ext w1 wr := hxo.trans hxoy
                            by_cases hld : d < bs
                            · go_wp2_with fail
                              go_loopw [17] (fun v17 wr => ∃ (f : Nat) (l2 : List Int), f ≤ bs ∧ v17 = .int .i64 f ∧ Hid (LdY wo wr g10 g12 N S l2 vs2 E2) ∧ Hid (InvL D i S bs ((n' : Int) + 1) x y d f l2)) (fun v17 _ => bs - (intOf v17).toNat)
                              case atStart => exact ⟨0, _, Nat.zero_le _, rfl, HY, HIL⟩
                              case round =>
                                clear HY HIL hxoy hxw
                                obtain ⟨f, l2, hf, rfl, HY, HIL⟩ := hrel
                                have hxoy := HY.out.ext'
                                have hxw : Ext w1 wr := hxo.trans hxoy
                                by_cases hlf : f < bs
                                · obtain ⟨ya0, ya1⟩ := HNx.out i x d hli hlx hld
                                  obtain ⟨yb0, yb1⟩ := HNx.out i y f hli hly hlf
                                  obtain ⟨ya, hya⟩ := Int.eq_ofNat_of_zero_le ya0
                                  obtain ⟨yb, hyb⟩ := Int.eq_ofNat_of_zero_le yb0
                                  have hyaS : ya < S := by have := HhS.out; omega
                                  have hybS : yb < S := by have := HhS.out; omega
                                  have HC1 := Lib.hid (fun W (h : Ext w1 W) => spec_next D q a n c a' n' c' (i : Int) (x : Int) (d : Int) W (HB1.out.ext h) HOK.out (by omega) (by have := HP.out; omega) (by omega) (by have := HhS.out; omega) (by omega) (by have := Hhbs.out; omega))
                                  have HC2 := Lib.hid (fun W (h : Ext w1 W) => spec_next D q a n c a' n' c' (i : Int) (y : Int) (f : Int) W (HB1.out.ext h) HOK.out (by omega) (by have := HP.out; omega) (by omega) (by have := HhS.out; omega) (by omega) (by have := Hhbs.out; omega))
                                  rw [hya] at HC1
                                  rw [hyb] at HC2
                                  have HYa := Lib.hid hya
                                  have HYb := Lib.hid hyb
                                  obtain ⟨P2, T2, hP2, hT2, hT2N, hwp2, hwt2⟩ := idx_wrap HN.out hS36' hyaS hybS
                                  have HT2 := Lib.hid hT2
                                  obtain ⟨hia7, hce7, hfr7⟩ := HY.out.rowL.at (P := Try.prog) 25 und_int64s cell_int64 T2 hT2N .i64
                                  rw [I_getD _ _ (by rw [HY.out.ln]; exact hT2N)] at hce7
                                  have c7 : ∀ W, Ext wr W → W.cell? ⟨g10, T2, none⟩ = some (.int .i64 (gi l2 T2)) := fun W h => h.cell hce7
                                  have z7 : ∀ W, Ext wr W → W.frozen? ⟨g10, T2, none⟩ = false := fun W h => (Below.frozen h (World.block_lt_of_cell? _ _ hce7)).trans hfr7
                                  clear ya0 ya1 yb0 yb1 hya hyb hce7 hfr7 hT2 hP2
                                  have mx : Ext wr wr := Ext.refl _
                                  by_cases hdf : d = f
                                  · have hb2 : ((d : Int) == (f : Int)) = true := by simp; omega
                                    have HDF := Lib.hid hdf
                                    clear hdf
                                    go_wp2_with fail
                                    (refine wp_region_from wr (by repeat (first | (with_reducible exact Ext.refl _) | (with_reducible refine Ext.drewN ?_ _) | (with_reducible refine Ext.drew ?_) | (with_reducible refine Ext.alloc ?_ _) | ((with_reducible refine Ext.setCell ?_ ?_ _); rotate_left; focus (first | (simp; done) | (simp; omega) | omega)) | assumption | (with_reducible refine Ext.trans ?_ (by assumption)))) (by kernel_rfl) (by kernel_rfl) (by kernel_rfl) ?_; (repeat (first | (refine mix_q rfl ?_; go_big_quiet_step (fail); refine wpQuiet_nil ?_; show wpMix _ _ _ _ _ _ _) | (refine mix_s rfl ?_; go_wp2_with (first | ((with_reducible refine (HC1.out _ (by repeat (first | (with_reducible exact Ext.refl _) | (with_reducible assumption) | (with_reducible refine Ext.drewN ?_ _) | (with_reducible refine Ext.drew ?_) | (with_reducible refine Ext.alloc ?_ _) | ((with_reducible refine Ext.setCell ?_ ?_ _); rotate_left; focus (first | (simp; done) | (simp; omega) | omega)) | (with_reducible refine Ext.trans ?_ (by with_reducible assumption))))).mono ?_); rintro e w7 ⟨rfl, hy7⟩; have hxr7 : Ext wr w7 := Ext.trans (by repeat (first | (with_reducible exact Ext.refl _) | (with_reducible assumption) | (with_reducible refine Ext.drewN ?_ _) | (with_reducible refine Ext.drew ?_) | (with_reducible refine Ext.alloc ?_ _) | ((with_reducible refine Ext.setCell ?_ ?_ _); rotate_left; focus (first | (simp; done) | (simp; omega) | omega)) | (with_reducible refine Ext.trans ?_ (by with_reducible assumption)))) hy7; have hxw7 : Ext w1 w7 := hxw.trans hxr7; clear hy7) | ((with_reducible refine (HC2.out _ (by repeat (first | (with_reducible exact Ext.refl _) | (with_reducible assumption) | (with_reducible refine Ext.drewN ?_ _) | (with_reducible refine Ext.drew ?_) | (with_reducible refine Ext.alloc ?_ _) | ((with_reducible refine Ext.setCell ?_ ?_ _); rotate_left; focus (first | (simp; done) | (simp; omega) | omega)) | (with_reducible refine Ext.trans ?_ (by with_reducible assumption))))).mono ?_); rintro e w9 ⟨rfl, hy9⟩; have hxr9 : Ext wr w9 := Ext.trans (by repeat (first | (with_reducible exact Ext.refl _) | (with_reducible assumption) | (with_reducible refine Ext.drewN ?_ _) | (with_reducible refine Ext.drew ?_) | (with_reducible refine Ext.alloc ?_ _) | ((with_reducible refine Ext.setCell ?_ ?_ _); rotate_left; focus (first | (simp; done) | (simp; omega) | omega)) | (with_reducible refine Ext.trans ?_ (by with_reducible assumption)))) hy9; have hxw9 : Ext w1 w9 := hxw.trans hxr9; have hxo9 : Ext wo w9 := hxoy.trans hxr9; clear hy9)); first | refine ⟨up_of (by repeat (first | (with_reducible exact Ext.refl _) | (with_reducible refine Ext.drewN ?_ _) | (with_reducible refine Ext.drew ?_) | (with_reducible refine Ext.alloc ?_ _) | ((with_reducible refine Ext.setCell ?_ ?_ _); rotate_left; focus (first | (simp; done) | (simp; omega) | omega)) | assumption | (with_reducible refine Ext.trans ?_ (by assumption)))), ?_⟩ | refine ⟨rfl, rfl, up_of (by repeat (first | (with_reducible exact Ext.refl _) | (with_reducible refine Ext.drewN ?_ _) | (with_reducible refine Ext.drew ?_) | (with_reducible refine Ext.alloc ?_ _) | ((with_reducible refine Ext.setCell ?_ ?_ _); rotate_left; focus (first | (simp; done) | (simp; omega) | omega)) | assumption | (with_reducible refine Ext.trans ?_ (by assumption)))), ?_⟩))); refine mix_nil ?_)
                                    by_cases hvl : v < (n' : Int) + 1
                                    · have HCt := Lib.hid (ctr_eqE HDF.out (HIL.out.2 ya hyaS yb hybS) HVm.out)
                                      have mx9 : Ext w9 w9 := Ext.refl _
                                      go_wp2_with fail
                                      (refine wp_region_upl 17 w9 (by repeat (first | (with_reducible exact Ext.refl _) | (with_reducible refine Ext.drewN ?_ _) | (with_reducible refine Ext.drew ?_) | (with_reducible refine Ext.alloc ?_ _) | ((with_reducible refine Ext.setCell ?_ ?_ _); rotate_left; focus (first | (simp; done) | (simp; omega) | omega)) | assumption | (with_reducible refine Ext.trans ?_ (by assumption)))) rfl (by kernel_rfl) (by kernel_rfl) (seqB_of (by kernel_rfl)) (lastB_of (by kernel_rfl)) ?_; simp only [List.take_succ_cons, List.take_zero, List.drop_succ_cons, List.drop_zero]; (repeat (first | (refine mix_q rfl ?_; go_big_quiet_step (fail); refine wpQuiet_nil ?_; show wpMix _ _ _ _ _ _ _) | (refine mix_s rfl ?_; go_wp2_with (((go_at_call 149; (with_reducible refine (spec_min _ _ _).mono ?_); rintro e w10 ⟨rfl, rfl⟩))); first | refine ⟨up_of (by repeat (first | (with_reducible exact Ext.refl _) | (with_reducible refine Ext.drewN ?_ _) | (with_reducible refine Ext.drew ?_) | (with_reducible refine Ext.alloc ?_ _) | ((with_reducible refine Ext.setCell ?_ ?_ _); rotate_left; focus (first | (simp; done) | (simp; omega) | omega)) | assumption | (with_reducible refine Ext.trans ?_ (by assumption)))), ?_⟩ | refine ⟨rfl, rfl, up_of (by repeat (first | (with_reducible exact Ext.refl _) | (with_reducible refine Ext.drewN ?_ _) | (with_reducible refine Ext.drew ?_) | (with_reducible refine Ext.alloc ?_ _) | ((with_reducible refine Ext.setCell ?_ ?_ _); rotate_left; focus (first | (simp; done) | (simp; omega) | omega)) | assumption | (with_reducible refine Ext.trans ?_ (by assumption)))), ?_⟩))); refine mix_nil ?_)
                                      go_wp2_with fail
                                      exact ⟨⟨f + 1, _, by omega, by go_num, Lib.hid (((HY.out.ext hxr9).setL T2 _).ext (Ext.refl _).drew), Lib.hid (by rw [HT2.out]; exact HIL.out.put hld hlf hly hyaS hybS HYa.out HYb.out _ HCt.out)⟩, by simp [intOf]; omega⟩
                                    · have hvd : decide (v < (n' : Int) + 1) = false := decide_eq_false hvl
                                      have HPs := Lib.hid (HIL.out.pass fun d' => by rw [← HDF.out]; exact ctr_noE HVm.out (by omega) HLf.out d d')
                                      go_wp2_with fail
                                      exact ⟨⟨f + 1, l2, by omega, by go_num, Lib.hid (HY.out.ext hxr9), HPs⟩, by simp [intOf]; omega⟩
                                  · have hb2 : ((d : Int) == (f : Int)) = false := by simp; omega
                                    have HDF := Lib.hid hdf
                                    clear hdf
                                    go_wp2_with fail
                                    (refine wp_region_from wr (by repeat (first | (with_reducible exact Ext.refl _) | (with_reducible refine Ext.drewN ?_ _) | (with_reducible refine Ext.drew ?_) | (with_reducible refine Ext.alloc ?_ _) | ((with_reducible refine Ext.setCell ?_ ?_ _); rotate_left; focus (first | (simp; done) | (simp; omega) | omega)) | assumption | (with_reducible refine Ext.trans ?_ (by assumption)))) (by kernel_rfl) (by kernel_rfl) (by kernel_rfl) ?_; (repeat (first | (refine mix_q rfl ?_; go_big_quiet_step (fail); refine wpQuiet_nil ?_; show wpMix _ _ _ _ _ _ _) | (refine mix_s rfl ?_; go_wp2_with (first | ((with_reducible refine (HC1.out _ (by repeat (first | (with_reducible exact Ext.refl _) | (with_reducible assumption) | (with_reducible refine Ext.drewN ?_ _) | (with_reducible refine Ext.drew ?_) | (with_reducible refine Ext.alloc ?_ _) | ((with_reducible refine Ext.setCell ?_ ?_ _); rotate_left; focus (first | (simp; done) | (simp; omega) | omega)) | (with_reducible refine Ext.trans ?_ (by with_reducible assumption))))).mono ?_); rintro e w7 ⟨rfl, hy7⟩; have hxr7 : Ext wr w7 := Ext.trans (by repeat (first | (with_reducible exact Ext.refl _) | (with_reducible assumption) | (with_reducible refine Ext.drewN ?_ _) | (with_reducible refine Ext.drew ?_) | (with_reducible refine Ext.alloc ?_ _) | ((with_reducible refine Ext.setCell ?_ ?_ _); rotate_left; focus (first | (simp; done) | (simp; omega) | omega)) | (with_reducible refine Ext.trans ?_ (by with_reducible assumption)))) hy7; have hxw7 : Ext w1 w7 := hxw.trans hxr7; clear hy7) | ((with_reducible refine (HC2.out _ (by repeat (first | (with_reducible exact Ext.refl _) | (with_reducible assumption) | (with_reducible refine Ext.drewN ?_ _) | (with_reducible refine Ext.drew ?_) | (with_reducible refine Ext.alloc ?_ _) | ((with_reducible refine Ext.setCell ?_ ?_ _); rotate_left; focus (first | (simp; done) | (simp; omega) | omega)) | (with_reducible refine Ext.trans ?_ (by with_reducible assumption))))).mono ?_); rintro e w9 ⟨rfl, hy9⟩; have hxr9 : Ext wr w9 := Ext.trans (by repeat (first | (with_reducible exact Ext.refl _) | (with_reducible assumption) | (with_reducible refine Ext.drewN ?_ _) | (with_reducible refine Ext.drew ?_) | (with_reducible refine Ext.alloc ?_ _) | ((with_reducible refine Ext.setCell ?_ ?_ _); rotate_left; focus (first | (simp; done) | (simp; omega) | omega)) | (with_reducible refine Ext.trans ?_ (by with_reducible assumption)))) hy9; have hxw9 : Ext w1 w9 := hxw.trans hxr9; have hxo9 : Ext wo w9 := hxoy.trans hxr9; clear hy9)); first | refine ⟨up_of (by repeat (first | (with_reducible exact Ext.refl _) | (with_reducible refine Ext.drewN ?_ _) | (with_reducible refine Ext.drew ?_) | (with_reducible refine Ext.alloc ?_ _) | ((with_reducible refine Ext.setCell ?_ ?_ _); rotate_left; focus (first | (simp; done) | (simp; omega) | omega)) | assumption | (with_reducible refine Ext.trans ?_ (by assumption)))), ?_⟩ | refine ⟨rfl, rfl, up_of (by repeat (first | (with_reducible exact Ext.refl _) | (with_reducible refine Ext.drewN ?_ _) | (with_reducible refine Ext.drew ?_) | (with_reducible refine Ext.alloc ?_ _) | ((with_reducible refine Ext.setCell ?_ ?_ _); rotate_left; focus (first | (simp; done) | (simp; omega) | omega)) | assumption | (with_reducible refine Ext.trans ?_ (by assumption)))), ?_⟩))); refine mix_nil ?_)
                                    have HCt := Lib.hid (ctr_one (by omega) (HIL.out.2 ya hyaS yb hybS) HDF.out HXY.out HEq.out)
                                    go_wp2_with (go_at_call 149; (with_reducible refine (spec_min _ _ _).mono ?_); rintro e w10 ⟨rfl, rfl⟩)
                                    exact ⟨⟨f + 1, _, by omega, by go_num, Lib.hid ((HY.out.ext hxr9).setL T2 _), Lib.hid (by rw [HT2.out]; exact HIL.out.put hld hlf hly hyaS hybS HYa.out HYb.out _ HCt.out)⟩, by simp [intOf]; omega⟩
                                · obtain rfl : f = bs := by omega
                                  have HILe := Lib.hid HIL.out.endB
                                  obtain ⟨ya0, ya1⟩ := HNx.out i x d hli hlx hld
                                  obtain ⟨ya, hya⟩ := Int.eq_ofNat_of_zero_le ya0
                                  have hyaS : ya < S := by have := HhS.out; omega
                                  have HC1 := Lib.hid (fun W (h : Ext w1 W) => spec_next D q a n c a' n' c' (i : Int) (x : Int) (d : Int) W (HB1.out.ext h) HOK.out (by omega) (by have := HP.out; omega) (by omega) (by have := HhS.out; omega) (by omega) (by have := Hhbs.out; omega))
                                  rw [hya] at HC1
                                  have HYa := Lib.hid hya
                                  obtain ⟨hiaB, hceB, hfrB⟩ := HY.out.rowB.at (P := Try.prog) 152 und_boolS cell_boolS ya hyaS .i64
                                  rw [show vs2.getD ya undef = .bool (E2 ya) from HY.out.br.2 ya hyaS] at hceB
                                  have cB : ∀ W, Ext wr W → W.cell? ⟨g12, ya, none⟩ = some (.bool (E2 ya)) := fun W h => h.cell hceB
                                  have zB : ∀ W, Ext wr W → W.frozen? ⟨g12, ya, none⟩ = false := fun W h => (Below.frozen h (World.block_lt_of_cell? _ _ hceB)).trans hfrB
                                  have mxB : Ext wr wr := Ext.refl _
                                  clear ya0 ya1 hya hceB hfrB
                                  go_wp2_with (go_at_call 93; (with_reducible refine (HC1.out _ (by repeat (first | (with_reducible exact Ext.refl _) | (with_reducible assumption) | (with_reducible refine Ext.drewN ?_ _) | (with_reducible refine Ext.drew ?_) | (with_reducible refine Ext.alloc ?_ _) | ((with_reducible refine Ext.setCell ?_ ?_ _); rotate_left; focus (first | (simp; done) | (simp; omega) | omega)) | (with_reducible refine Ext.trans ?_ (by with_reducible assumption))))).mono ?_); rintro e w7 ⟨rfl, hy7⟩; have hxr7 : Ext wr w7 := hy7; clear hy7)
                                  exact ⟨⟨d + 1, l2, _, _, by omega, by go_num, Lib.hid ((HY.out.ext hxr7).setB hyaS), HILe, Lib.hid (HIE.out.put HXY.out HEq.out hld HYa.out)⟩, by simp [intOf]; omega⟩
                            · obtain rfl : d = bs := by omega
                              have HILe := Lib.hid (HIL.out.endA hly)
                              have HIEe := Lib.hid HIE.out.endA
                              go_wp2_with fail
                              exact ⟨⟨y + 1, l2, vs2, E2, by omega, by go_num, HY, HILe, HIEe⟩, by simp [intOf]; omega⟩
                        | false =>
                          rw [hEx] at hceE
                          have cE : ∀ W, Ext wo W → W.cell? ⟨ge, x, none⟩ = some (.bool false) := fun W h => h.cell hceE
                          clear hceE
                          have hxw : Ext w1 wr := hxo.trans hxoy
                          have HNo : Hid (¬ (x = y ∧ EqT D i x)) := Lib.hid (by rintro ⟨_, h⟩; rw [(HEo.out x hlx).2 h] at hEx; cases hEx)
                          obtain ⟨hv0, hv1⟩ := HVm.out.bd (by omega)
                          clear hEx
                          have hvle := HVm.out.le
                          by_cases hvf : v = (n' : Int) + 1
                          · have hvb : (v == (n' : Int) + 1) = true := by simpa using hvf
                            have HILs := Lib.hid (HIL.out.skip fun a b d => ctr_no HVm.out (by omega) HLf.out HNo.out a b d)
                            have HIEs := Lib.hid (HIE.out.skip HNo.out)
                            clear hvf
                            go_wp2_with fail
                            exact ⟨⟨y + 1, l2, vs2, E2, by omega, by go_num, HY, HILs, HIEs⟩, by simp [intOf]; omega⟩
                          have hvb : (v == (n' : Int) + 1) = false := by simpa using hvf
                          have hvlt : v < (n' : Int) + 1 := by omega
                          go_wp2_with fail
                          go_loopw [16] (fun v16 wr => ∃ (d : Nat) (l2 : List Int) (vs2 : List Value) (E2 : Nat → Bool), d ≤ bs ∧ v16 = .int .i64 d ∧ Hid (LdY wo wr g10 g12 N S l2 vs2 E2) ∧ Hid (InvL D i S bs ((n' : Int) + 1) x y d 0 l2) ∧ Hid (InvE D i S bs x y d E2)) (fun v16 _ => bs - (intOf v16).toNat)
                          case atStart => exact ⟨0, _, _, _, Nat.zero_le _, rfl, HY, HIL, HIE⟩
                          case round =>
                            clear HY HIL HIE hxoy hxw
                            obtain ⟨d, l2, vs2, E2, hd, rfl, HY, HIL, HIE⟩ := hrel
                            have hxoy := HY.out.ext'
                            have hxw : Ext w1 wr := hxo.trans hxoy
                            by_cases hld : d < bs
                            · go_wp2_with fail
                              go_loopw [17] (fun v17 wr => ∃ (f : Nat) (l2 : List Int), f ≤ bs ∧ v17 = .int .i64 f ∧ Hid (LdY wo wr g10 g12 N S l2 vs2 E2) ∧ Hid (InvL D i S bs ((n' : Int) + 1) x y d f l2)) (fun v17 _ => bs - (intOf v17).toNat)
                              case atStart => exact ⟨0, _, Nat.zero_le _, rfl, HY, HIL⟩
                              case round =>
                                clear HY HIL hxoy hxw
                                obtain ⟨f, l2, hf, rfl, HY, HIL⟩ := hrel
                                have hxoy := HY.out.ext'
                                have hxw : Ext w1 wr := hxo.trans hxoy
                                by_cases hlf : f < bs
                                · obtain ⟨ya0, ya1⟩ := HNx.out i x d hli hlx hld
                                  obtain ⟨yb0, yb1⟩ := HNx.out i y f hli hly hlf
                                  obtain ⟨ya, hya⟩ := Int.eq_ofNat_of_zero_le ya0
                                  obtain ⟨yb, hyb⟩ := Int.eq_ofNat_of_zero_le yb0
                                  have hyaS : ya < S := by have := HhS.out; omega
                                  have hybS : yb < S := by have := HhS.out; omega
                                  have HC1 := Lib.hid (fun W (h : Ext w1 W) => spec_next D q a n c a' n' c' (i : Int) (x : Int) (d : Int) W (HB1.out.ext h) HOK.out (by omega) (by have := HP.out; omega) (by omega) (by have := HhS.out; omega) (by omega) (by have := Hhbs.out; omega))
                                  have HC2 := Lib.hid (fun W (h : Ext w1 W) => spec_next D q a n c a' n' c' (i : Int) (y : Int) (f : Int) W (HB1.out.ext h) HOK.out (by omega) (by have := HP.out; omega) (by omega) (by have := HhS.out; omega) (by omega) (by have := Hhbs.out; omega))
                                  rw [hya] at HC1
                                  rw [hyb] at HC2
                                  have HYa := Lib.hid hya
                                  have HYb := Lib.hid hyb
                                  obtain ⟨P2, T2, hP2, hT2, hT2N, hwp2, hwt2⟩ := idx_wrap HN.out hS36' hyaS hybS
                                  have HT2 := Lib.hid hT2
                                  obtain ⟨hia7, hce7, hfr7⟩ := HY.out.rowL.at (P := Try.prog) 25 und_int64s cell_int64 T2 hT2N .i64
                                  rw [I_getD _ _ (by rw [HY.out.ln]; exact hT2N)] at hce7
                                  have c7 : ∀ W, Ext wr W → W.cell? ⟨g10, T2, none⟩ = some (.int .i64 (gi l2 T2)) := fun W h => h.cell hce7
                                  have z7 : ∀ W, Ext wr W → W.frozen? ⟨g10, T2, none⟩ = false := fun W h => (Below.frozen h (World.block_lt_of_cell? _ _ hce7)).trans hfr7
                                  clear ya0 ya1 yb0 yb1 hya hyb hce7 hfr7 hT2 hP2
                                  have mx : Ext wr wr := Ext.refl _
                                  by_cases hdf : d = f
                                  · have hb2 : ((d : Int) == (f : Int)) = true := by simp; omega
                                    have HDF := Lib.hid hdf
                                    clear hdf
                                    go_wp2_with fail
                                    (refine wp_region_from wr (by repeat (first | (with_reducible exact Ext.refl _) | (with_reducible refine Ext.drewN ?_ _) | (with_reducible refine Ext.drew ?_) | (with_reducible refine Ext.alloc ?_ _) | ((with_reducible refine Ext.setCell ?_ ?_ _); rotate_left; focus (first | (simp; done) | (simp; omega) | omega)) | assumption | (with_reducible refine Ext.trans ?_ (by assumption)))) (by kernel_rfl) (by kernel_rfl) (by kernel_rfl) ?_; (repeat (first | (refine mix_q rfl ?_; go_big_quiet_step (fail); refine wpQuiet_nil ?_; show wpMix _ _ _ _ _ _ _) | (refine mix_s rfl ?_; go_wp2_with (first | ((with_reducible refine (HC1.out _ (by repeat (first | (with_reducible exact Ext.refl _) | (with_reducible assumption) | (with_reducible refine Ext.drewN ?_ _) | (with_reducible refine Ext.drew ?_) | (with_reducible refine Ext.alloc ?_ _) | ((with_reducible refine Ext.setCell ?_ ?_ _); rotate_left; focus (first | (simp; done) | (simp; omega) | omega)) | (with_reducible refine Ext.trans ?_ (by with_reducible assumption))))).mono ?_); rintro e w7 ⟨rfl, hy7⟩; have hxr7 : Ext wr w7 := Ext.trans (by repeat (first | (with_reducible exact Ext.refl _) | (with_reducible assumption) | (with_reducible refine Ext.drewN ?_ _) | (with_reducible refine Ext.drew ?_) | (with_reducible refine Ext.alloc ?_ _) | ((with_reducible refine Ext.setCell ?_ ?_ _); rotate_left; focus (first | (simp; done) | (simp; omega) | omega)) | (with_reducible refine Ext.trans ?_ (by with_reducible assumption)))) hy7; have hxw7 : Ext w1 w7 := hxw.trans hxr7; clear hy7) | ((with_reducible refine (HC2.out _ (by repeat (first | (with_reducible exact Ext.refl _) | (with_reducible assumption) | (with_reducible refine Ext.drewN ?_ _) | (with_reducible refine Ext.drew ?_) | (with_reducible refine Ext.alloc ?_ _) | ((with_reducible refine Ext.setCell ?_ ?_ _); rotate_left; focus (first | (simp; done) | (simp; omega) | omega)) | (with_reducible refine Ext.trans ?_ (by with_reducible assumption))))).mono ?_); rintro e w9 ⟨rfl, hy9⟩; have hxr9 : Ext wr w9 := Ext.trans (by repeat (first | (with_reducible exact Ext.refl _) | (with_reducible assumption) | (with_reducible refine Ext.drewN ?_ _) | (with_reducible refine Ext.drew ?_) | (with_reducible refine Ext.alloc ?_ _) | ((with_reducible refine Ext.setCell ?_ ?_ _); rotate_left; focus (first | (simp; done) | (simp; omega) | omega)) | (with_reducible refine Ext.trans ?_ (by with_reducible assumption)))) hy9; have hxw9 : Ext w1 w9 := hxw.trans hxr9; have hxo9 : Ext wo w9 := hxoy.trans hxr9; clear hy9)); first | refine ⟨up_of (by repeat (first | (with_reducible exact Ext.refl _) | (with_reducible refine Ext.drewN ?_ _) | (with_reducible refine Ext.drew ?_) | (with_reducible refine Ext.alloc ?_ _) | ((with_reducible refine Ext.setCell ?_ ?_ _); rotate_left; focus (first | (simp; done) | (simp; omega) | omega)) | assumption | (with_reducible refine Ext.trans ?_ (by assumption)))), ?_⟩ | refine ⟨rfl, rfl, up_of (by repeat (first | (with_reducible exact Ext.refl _) | (with_reducible refine Ext.drewN ?_ _) | (with_reducible refine Ext.drew ?_) | (with_reducible refine Ext.alloc ?_ _) | ((with_reducible refine Ext.setCell ?_ ?_ _); rotate_left; focus (first | (simp; done) | (simp; omega) | omega)) | assumption | (with_reducible refine Ext.trans ?_ (by assumption)))), ?_⟩))); refine mix_nil ?_)
                                    by_cases hvl : v < (n' : Int) + 1
                                    · have HCt := Lib.hid (ctr_eqE HDF.out (HIL.out.2 ya hyaS yb hybS) HVm.out)
                                      have mx9 : Ext w9 w9 := Ext.refl _
                                      go_wp2_with fail
                                      (refine wp_region_upl 17 w9 (by repeat (first | (with_reducible exact Ext.refl _) | (with_reducible refine Ext.drewN ?_ _) | (with_reducible refine Ext.drew ?_) | (with_reducible refine Ext.alloc ?_ _) | ((with_reducible refine Ext.setCell ?_ ?_ _); rotate_left; focus (first | (simp; done) | (simp; omega) | omega)) | assumption | (with_reducible refine Ext.trans ?_ (by assumption)))) rfl (by kernel_rfl) (by kernel_rfl) (seqB_of (by kernel_rfl)) (lastB_of (by kernel_rfl)) ?_; simp only [List.take_succ_cons, List.take_zero, List.drop_succ_cons, List.drop_zero]; (repeat (first | (refine mix_q rfl ?_; go_big_quiet_step (fail); refine wpQuiet_nil ?_; show wpMix _ _ _ _ _ _ _) | (refine mix_s rfl ?_; go_wp2_with (((go_at_call 149; (with_reducible refine (spec_min _ _ _).mono ?_); rintro e w10 ⟨rfl, rfl⟩))); first | refine ⟨up_of (by repeat (first | (with_reducible exact Ext.refl _) | (with_reducible refine Ext.drewN ?_ _) | (with_reducible refine Ext.drew ?_) | (with_reducible refine Ext.alloc ?_ _) | ((with_reducible refine Ext.setCell ?_ ?_ _); rotate_left; focus (first | (simp; done) | (simp; omega) | omega)) | assumption | (with_reducible refine Ext.trans ?_ (by assumption)))), ?_⟩ | refine ⟨rfl, rfl, up_of (by repeat (first | (with_reducible exact Ext.refl _) | (with_reducible refine Ext.drewN ?_ _) | (with_reducible refine Ext.drew ?_) | (with_reducible refine Ext.alloc ?_ _) | ((with_reducible refine Ext.setCell ?_ ?_ _); rotate_left; focus (first | (simp; done) | (simp; omega) | omega)) | assumption | (with_reducible refine Ext.trans ?_ (by assumption)))), ?_⟩))); refine mix_nil ?_)
                                      go_wp2_with fail
                                      exact ⟨⟨f + 1, _, by omega, by go_num, Lib.hid (((HY.out.ext hxr9).setL T2 _).ext (Ext.refl _).drew), Lib.hid (by rw [HT2.out]; exact HIL.out.put hld hlf hly hyaS hybS HYa.out HYb.out _ HCt.out)⟩, by simp [intOf]; omega⟩
                                    · exact absurd hvlt hvl
                                  · have hb2 : ((d : Int) == (f : Int)) = false := by simp; omega
                                    have HDF := Lib.hid hdf
                                    clear hdf
                                    go_wp2_with fail
                                    (refine wp_region_from wr (by repeat (first | (with_reducible exact Ext.refl _) | (with_reducible refine Ext.drewN ?_ _) | (with_reducible refine Ext.drew ?_) | (with_reducible refine Ext.alloc ?_ _) | ((with_reducible refine Ext.setCell ?_ ?_ _); rotate_left; focus (first | (simp; done) | (simp; omega) | omega)) | assumption | (with_reducible refine Ext.trans ?_ (by assumption)))) (by kernel_rfl) (by kernel_rfl) (by kernel_rfl) ?_; (repeat (first | (refine mix_q rfl ?_; go_big_quiet_step (fail); refine wpQuiet_nil ?_; show wpMix _ _ _ _ _ _ _) | (refine mix_s rfl ?_; go_wp2_with (first | ((with_reducible refine (HC1.out _ (by repeat (first | (with_reducible exact Ext.refl _) | (with_reducible assumption) | (with_reducible refine Ext.drewN ?_ _) | (with_reducible refine Ext.drew ?_) | (with_reducible refine Ext.alloc ?_ _) | ((with_reducible refine Ext.setCell ?_ ?_ _); rotate_left; focus (first | (simp; done) | (simp; omega) | omega)) | (with_reducible refine Ext.trans ?_ (by with_reducible assumption))))).mono ?_); rintro e w7 ⟨rfl, hy7⟩; have hxr7 : Ext wr w7 := Ext.trans (by repeat (first | (with_reducible exact Ext.refl _) | (with_reducible assumption) | (with_reducible refine Ext.drewN ?_ _) | (with_reducible refine Ext.drew ?_) | (with_reducible refine Ext.alloc ?_ _) | ((with_reducible refine Ext.setCell ?_ ?_ _); rotate_left; focus (first | (simp; done) | (simp; omega) | omega)) | (with_reducible refine Ext.trans ?_ (by with_reducible assumption)))) hy7; have hxw7 : Ext w1 w7 := hxw.trans hxr7; clear hy7) | ((with_reducible refine (HC2.out _ (by repeat (first | (with_reducible exact Ext.refl _) | (with_reducible assumption) | (with_reducible refine Ext.drewN ?_ _) | (with_reducible refine Ext.drew ?_) | (with_reducible refine Ext.alloc ?_ _) | ((with_reducible refine Ext.setCell ?_ ?_ _); rotate_left; focus (first | (simp; done) | (simp; omega) | omega)) | (with_reducible refine Ext.trans ?_ (by with_reducible assumption))))).mono ?_); rintro e w9 ⟨rfl, hy9⟩; have hxr9 : Ext wr w9 := Ext.trans (by repeat (first | (with_reducible exact Ext.refl _) | (with_reducible assumption) | (with_reducible refine Ext.drewN ?_ _) | (with_reducible refine Ext.drew ?_) | (with_reducible refine Ext.alloc ?_ _) | ((with_reducible refine Ext.setCell ?_ ?_ _); rotate_left; focus (first | (simp; done) | (simp; omega) | omega)) | (with_reducible refine Ext.trans ?_ (by with_reducible assumption)))) hy9; have hxw9 : Ext w1 w9 := hxw.trans hxr9; have hxo9 : Ext wo w9 := hxoy.trans hxr9; clear hy9)); first | refine ⟨up_of (by repeat (first | (with_reducible exact Ext.refl _) | (with_reducible refine Ext.drewN ?_ _) | (with_reducible refine Ext.drew ?_) | (with_reducible refine Ext.alloc ?_ _) | ((with_reducible refine Ext.setCell ?_ ?_ _); rotate_left; focus (first | (simp; done) | (simp; omega) | omega)) | assumption | (with_reducible refine Ext.trans ?_ (by assumption)))), ?_⟩ | refine ⟨rfl, rfl, up_of (by repeat (first | (with_reducible exact Ext.refl _) | (with_reducible refine Ext.drewN ?_ _) | (with_reducible refine Ext.drew ?_) | (with_reducible refine Ext.alloc ?_ _) | ((with_reducible refine Ext.setCell ?_ ?_ _); rotate_left; focus (first | (simp; done) | (simp; omega) | omega)) | assumption | (with_reducible refine Ext.trans ?_ (by assumption)))), ?_⟩))); refine mix_nil ?_)
                                    have HCt := Lib.hid (ctr_ne (HIL.out.2 ya hyaS yb hybS) HVm.out HDF.out HNo.out)
                                    go_wp2_with (go_at_call 149; (with_reducible refine (spec_min _ _ _).mono ?_); rintro e w10 ⟨rfl, rfl⟩)
                                    exact ⟨⟨f + 1, _, by omega, by go_num, Lib.hid ((HY.out.ext hxr9).setL T2 _), Lib.hid (by rw [HT2.out]; exact HIL.out.put hld hlf hly hyaS hybS HYa.out HYb.out _ HCt.out)⟩, by simp [intOf]; omega⟩
                                · obtain rfl : f = bs := by omega
                                  have HILe := Lib.hid HIL.out.endB
                                  have HIEp := Lib.hid (HIE.out.pass HNo.out)
                                  go_wp2_with fail
                                  exact ⟨⟨d + 1, l2, vs2, E2, by omega, by go_num, HY, HILe, HIEp⟩, by simp [intOf]; omega⟩
                            · obtain rfl : d = bs := by omega
                              have HILe := Lib.hid (HIL.out.endA hly)
                              have HIEe := Lib.hid HIE.out.endA
                              go_wp2_with fail
                              exact ⟨⟨y + 1, l2, vs2, E2, by omega, by go_num, HY, HILe, HIEe⟩, by simp [intOf]; omega⟩
                      · have hb1 : ((x : Int) == (y : Int)) = false := by simp; omega
                        have HXY := Lib.hid hxy
                        clear hxy
                        clear hceE
                        have hxw : Ext w1 wr := hxo.trans hxoy
                        have HNo : Hid (¬ (x = y ∧ EqT D i x)) := Lib.hid (by exact fun h => HXY.out h.1)
                        obtain ⟨hv0, hv1⟩ := HVm.out.bd (by omega)
                        skip
                        have hvle := HVm.out.le
                        by_cases hvf : v = (n' : Int) + 1
                        · have hvb : (v == (n' : Int) + 1) = true := by simpa using hvf
                          have HILs := Lib.hid (HIL.out.skip fun a b d => ctr_no HVm.out (by omega) HLf.out HNo.out a b d)
                          have HIEs := Lib.hid (HIE.out.skip HNo.out)
                          clear hvf
                          go_wp2_with fail
                          exact ⟨⟨y + 1, l2, vs2, E2, by omega, by go_num, HY, HILs, HIEs⟩, by simp [intOf]; omega⟩
                        have hvb : (v == (n' : Int) + 1) = false := by simpa using hvf
                        have hvlt : v < (n' : Int) + 1 := by omega
                        go_wp2_with fail
                        go_loopw [16] (fun v16 wr => ∃ (d : Nat) (l2 : List Int) (vs2 : List Value) (E2 : Nat → Bool), d ≤ bs ∧ v16 = .int .i64 d ∧ Hid (LdY wo wr g10 g12 N S l2 vs2 E2) ∧ Hid (InvL D i S bs ((n' : Int) + 1) x y d 0 l2) ∧ Hid (InvE D i S bs x y d E2)) (fun v16 _ => bs - (intOf v16).toNat)
                        case atStart => exact ⟨0, _, _, _, Nat.zero_le _, rfl, HY, HIL, HIE⟩
                        case round =>
                          clear HY HIL HIE hxoy hxw
                          obtain ⟨d, l2, vs2, E2, hd, rfl, HY, HIL, HIE⟩ := hrel
                          have hxoy := HY.out.ext'
                          have hxw : Ext w1 wr := hxo.trans hxoy
                          by_cases hld : d < bs
                          · go_wp2_with fail
                            go_loopw [17] (fun v17 wr => ∃ (f : Nat) (l2 : List Int), f ≤ bs ∧ v17 = .int .i64 f ∧ Hid (LdY wo wr g10 g12 N S l2 vs2 E2) ∧ Hid (InvL D i S bs ((n' : Int) + 1) x y d f l2)) (fun v17 _ => bs - (intOf v17).toNat)
                            case atStart => exact ⟨0, _, Nat.zero_le _, rfl, HY, HIL⟩
                            case round =>
                              clear HY HIL hxoy hxw
                              obtain ⟨f, l2, hf, rfl, HY, HIL⟩ := hrel
                              have hxoy := HY.out.ext'
                              have hxw : Ext w1 wr := hxo.trans hxoy
                              by_cases hlf : f < bs
                              · obtain ⟨ya0, ya1⟩ := HNx.out i x d hli hlx hld
                                obtain ⟨yb0, yb1⟩ := HNx.out i y f hli hly hlf
                                obtain ⟨ya, hya⟩ := Int.eq_ofNat_of_zero_le ya0
                                obtain ⟨yb, hyb⟩ := Int.eq_ofNat_of_zero_le yb0
                                have hyaS : ya < S := by have := HhS.out; omega
                                have hybS : yb < S := by have := HhS.out; omega
                                have HC1 := Lib.hid (fun W (h : Ext w1 W) => spec_next D q a n c a' n' c' (i : Int) (x : Int) (d : Int) W (HB1.out.ext h) HOK.out (by omega) (by have := HP.out; omega) (by omega) (by have := HhS.out; omega) (by omega) (by have := Hhbs.out; omega))
                                have HC2 := Lib.hid (fun W (h : Ext w1 W) => spec_next D q a n c a' n' c' (i : Int) (y : Int) (f : Int) W (HB1.out.ext h) HOK.out (by omega) (by have := HP.out; omega) (by omega) (by have := HhS.out; omega) (by omega) (by have := Hhbs.out; omega))
                                rw [hya] at HC1
                                rw [hyb] at HC2
                                have HYa := Lib.hid hya
                                have HYb := Lib.hid hyb
                                obtain ⟨P2, T2, hP2, hT2, hT2N, hwp2, hwt2⟩ := idx_wrap HN.out hS36' hyaS hybS
                                have HT2 := Lib.hid hT2
                                obtain ⟨hia7, hce7, hfr7⟩ := HY.out.rowL.at (P := Try.prog) 25 und_int64s cell_int64 T2 hT2N .i64
                                rw [I_getD _ _ (by rw [HY.out.ln]; exact hT2N)] at hce7
                                have c7 : ∀ W, Ext wr W → W.cell? ⟨g10, T2, none⟩ = some (.int .i64 (gi l2 T2)) := fun W h => h.cell hce7
                                have z7 : ∀ W, Ext wr W → W.frozen? ⟨g10, T2, none⟩ = false := fun W h => (Below.frozen h (World.block_lt_of_cell? _ _ hce7)).trans hfr7
                                clear ya0 ya1 yb0 yb1 hya hyb hce7 hfr7 hT2 hP2
                                have mx : Ext wr wr := Ext.refl _
                                by_cases hdf : d = f
                                · have hb2 : ((d : Int) == (f : Int)) = true := by simp; omega
                                  have HDF := Lib.hid hdf
                                  clear hdf
                                  go_wp2_with fail
                                  (refine wp_region_from wr (by repeat (first | (with_reducible exact Ext.refl _) | (with_reducible refine Ext.drewN ?_ _) | (with_reducible refine Ext.drew ?_) | (with_reducible refine Ext.alloc ?_ _) | ((with_reducible refine Ext.setCell ?_ ?_ _); rotate_left; focus (first | (simp; done) | (simp; omega) | omega)) | assumption | (with_reducible refine Ext.trans ?_ (by assumption)))) (by kernel_rfl) (by kernel_rfl) (by kernel_rfl) ?_; (repeat (first | (refine mix_q rfl ?_; go_big_quiet_step (fail); refine wpQuiet_nil ?_; show wpMix _ _ _ _ _ _ _) | (refine mix_s rfl ?_; go_wp2_with (first | ((with_reducible refine (HC1.out _ (by repeat (first | (with_reducible exact Ext.refl _) | (with_reducible assumption) | (with_reducible refine Ext.drewN ?_ _) | (with_reducible refine Ext.drew ?_) | (with_reducible refine Ext.alloc ?_ _) | ((with_reducible refine Ext.setCell ?_ ?_ _); rotate_left; focus (first | (simp; done) | (simp; omega) | omega)) | (with_reducible refine Ext.trans ?_ (by with_reducible assumption))))).mono ?_); rintro e w7 ⟨rfl, hy7⟩; have hxr7 : Ext wr w7 := Ext.trans (by repeat (first | (with_reducible exact Ext.refl _) | (with_reducible assumption) | (with_reducible refine Ext.drewN ?_ _) | (with_reducible refine Ext.drew ?_) | (with_reducible refine Ext.alloc ?_ _) | ((with_reducible refine Ext.setCell ?_ ?_ _); rotate_left; focus (first | (simp; done) | (simp; omega) | omega)) | (with_reducible refine Ext.trans ?_ (by with_reducible assumption)))) hy7; have hxw7 : Ext w1 w7 := hxw.trans hxr7; clear hy7) | ((with_reducible refine (HC2.out _ (by repeat (first | (with_reducible exact Ext.refl _) | (with_reducible assumption) | (with_reducible refine Ext.drewN ?_ _) | (with_reducible refine Ext.drew ?_) | (with_reducible refine Ext.alloc ?_ _) | ((with_reducible refine Ext.setCell ?_ ?_ _); rotate_left; focus (first | (simp; done) | (simp; omega) | omega)) | (with_reducible refine Ext.trans ?_ (by with_reducible assumption))))).mono ?_); rintro e w9 ⟨rfl, hy9⟩; have hxr9 : Ext wr w9 := Ext.trans (by repeat (first | (with_reducible exact Ext.refl _) | (with_reducible assumption) | (with_reducible refine Ext.drewN ?_ _) | (with_reducible refine Ext.drew ?_) | (with_reducible refine Ext.alloc ?_ _) | ((with_reducible refine Ext.setCell ?_ ?_ _); rotate_left; focus (first | (simp; done) | (simp; omega) | omega)) | (with_reducible refine Ext.trans ?_ (by with_reducible assumption)))) hy9; have hxw9 : Ext w1 w9 := hxw.trans hxr9; have hxo9 : Ext wo w9 := hxoy.trans hxr9; clear hy9)); first | refine ⟨up_of (by repeat (first | (with_reducible exact Ext.refl _) | (with_reducible refine Ext.drewN ?_ _) | (with_reducible refine Ext.drew ?_) | (with_reducible refine Ext.alloc ?_ _) | ((with_reducible refine Ext.setCell ?_ ?_ _); rotate_left; focus (first | (simp; done) | (simp; omega) | omega)) | assumption | (with_reducible refine Ext.trans ?_ (by assumption)))), ?_⟩ | refine ⟨rfl, rfl, up_of (by repeat (first | (with_reducible exact Ext.refl _) | (with_reducible refine Ext.drewN ?_ _) | (with_reducible refine Ext.drew ?_) | (with_reducible refine Ext.alloc ?_ _) | ((with_reducible refine Ext.setCell ?_ ?_ _); rotate_left; focus (first | (simp; done) | (simp; omega) | omega)) | assumption | (with_reducible refine Ext.trans ?_ (by assumption)))), ?_⟩))); refine mix_nil ?_)
                                  by_cases hvl : v < (n' : Int) + 1
                                  · have HCt := Lib.hid (ctr_eqE HDF.out (HIL.out.2 ya hyaS yb hybS) HVm.out)
                                    have mx9 : Ext w9 w9 := Ext.refl _
                                    go_wp2_with fail
                                    (refine wp_region_upl 17 w9 (by repeat (first | (with_reducible exact Ext.refl _) | (with_reducible refine Ext.drewN ?_ _) | (with_reducible refine Ext.drew ?_) | (with_reducible refine Ext.alloc ?_ _) | ((with_reducible refine Ext.setCell ?_ ?_ _); rotate_left; focus (first | (simp; done) | (simp; omega) | omega)) | assumption | (with_reducible refine Ext.trans ?_ (by assumption)))) rfl (by kernel_rfl) (by kernel_rfl) (seqB_of (by kernel_rfl)) (lastB_of (by kernel_rfl)) ?_; simp only [List.take_succ_cons, List.take_zero, List.drop_succ_cons, List.drop_zero]; (repeat (first | (refine mix_q rfl ?_; go_big_quiet_step (fail); refine wpQuiet_nil ?_; show wpMix _ _ _ _ _ _ _) | (refine mix_s rfl ?_; go_wp2_with (((go_at_call 149; (with_reducible refine (spec_min _ _ _).mono ?_); rintro e w10 ⟨rfl, rfl⟩))); first | refine ⟨up_of (by repeat (first | (with_reducible exact Ext.refl _) | (with_reducible refine Ext.drewN ?_ _) | (with_reducible refine Ext.drew ?_) | (with_reducible refine Ext.alloc ?_ _) | ((with_reducible refine Ext.setCell ?_ ?_ _); rotate_left; focus (first | (simp; done) | (simp; omega) | omega)) | assumption | (with_reducible refine Ext.trans ?_ (by assumption)))), ?_⟩ | refine ⟨rfl, rfl, up_of (by repeat (first | (with_reducible exact Ext.refl _) | (with_reducible refine Ext.drewN ?_ _) | (with_reducible refine Ext.drew ?_) | (with_reducible refine Ext.alloc ?_ _) | ((with_reducible refine Ext.setCell ?_ ?_ _); rotate_left; focus (first | (simp; done) | (simp; omega) | omega)) | assumption | (with_reducible refine Ext.trans ?_ (by assumption)))), ?_⟩))); refine mix_nil ?_)
                                    go_wp2_with fail
                                    exact ⟨⟨f + 1, _, by omega, by go_num, Lib.hid (((HY.out.ext hxr9).setL T2 _).ext (Ext.refl _).drew), Lib.hid (by rw [HT2.out]; exact HIL.out.put hld hlf hly hyaS hybS HYa.out HYb.out _ HCt.out)⟩, by simp [intOf]; omega⟩
                                  · exact absurd hvlt hvl
                                · have hb2 : ((d : Int) == (f : Int)) = false := by simp; omega
                                  have HDF := Lib.hid hdf
                                  clear hdf
                                  go_wp2_with fail
                                  (refine wp_region_from wr (by repeat (first | (with_reducible exact Ext.refl _) | (with_reducible refine Ext.drewN ?_ _) | (with_reducible refine Ext.drew ?_) | (with_reducible refine Ext.alloc ?_ _) | ((with_reducible refine Ext.setCell ?_ ?_ _); rotate_left; focus (first | (simp; done) | (simp; omega) | omega)) | assumption | (with_reducible refine Ext.trans ?_ (by assumption)))) (by kernel_rfl) (by kernel_rfl) (by kernel_rfl) ?_; (repeat (first | (refine mix_q rfl ?_; go_big_quiet_step (fail); refine wpQuiet_nil ?_; show wpMix _ _ _ _ _ _ _) | (refine mix_s rfl ?_; go_wp2_with (first | ((with_reducible refine (HC1.out _ (by repeat (first | (with_reducible exact Ext.refl _) | (with_reducible assumption) | (with_reducible refine Ext.drewN ?_ _) | (with_reducible refine Ext.drew ?_) | (with_reducible refine Ext.alloc ?_ _) | ((with_reducible refine Ext.setCell ?_ ?_ _); rotate_left; focus (first | (simp; done) | (simp; omega) | omega)) | (with_reducible refine Ext.trans ?_ (by with_reducible assumption))))).mono ?_); rintro e w7 ⟨rfl, hy7⟩; have hxr7 : Ext wr w7 := Ext.trans (by repeat (first | (with_reducible exact Ext.refl _) | (with_reducible assumption) | (with_reducible refine Ext.drewN ?_ _) | (with_reducible refine Ext.drew ?_) | (with_reducible refine Ext.alloc ?_ _) | ((with_reducible refine Ext.setCell ?_ ?_ _); rotate_left; focus (first | (simp; done) | (simp; omega) | omega)) | (with_reducible refine Ext.trans ?_ (by with_reducible assumption)))) hy7; have hxw7 : Ext w1 w7 := hxw.trans hxr7; clear hy7) | ((with_reducible refine (HC2.out _ (by repeat (first | (with_reducible exact Ext.refl _) | (with_reducible assumption) | (with_reducible refine Ext.drewN ?_ _) | (with_reducible refine Ext.drew ?_) | (with_reducible refine Ext.alloc ?_ _) | ((with_reducible refine Ext.setCell ?_ ?_ _); rotate_left; focus (first | (simp; done) | (simp; omega) | omega)) | (with_reducible refine Ext.trans ?_ (by with_reducible assumption))))).mono ?_); rintro e w9 ⟨rfl, hy9⟩; have hxr9 : Ext wr w9 := Ext.trans (by repeat (first | (with_reducible exact Ext.refl _) | (with_reducible assumption) | (with_reducible refine Ext.drewN ?_ _) | (with_reducible refine Ext.drew ?_) | (with_reducible refine Ext.alloc ?_ _) | ((with_reducible refine Ext.setCell ?_ ?_ _); rotate_left; focus (first | (simp; done) | (simp; omega) | omega)) | (with_reducible refine Ext.trans ?_ (by with_reducible assumption)))) hy9; have hxw9 : Ext w1 w9 := hxw.trans hxr9; have hxo9 : Ext wo w9 := hxoy.trans hxr9; clear hy9)); first | refine ⟨up_of (by repeat (first | (with_reducible exact Ext.refl _) | (with_reducible refine Ext.drewN ?_ _) | (with_reducible refine Ext.drew ?_) | (with_reducible refine Ext.alloc ?_ _) | ((with_reducible refine Ext.setCell ?_ ?_ _); rotate_left; focus (first | (simp; done) | (simp; omega) | omega)) | assumption | (with_reducible refine Ext.trans ?_ (by assumption)))), ?_⟩ | refine ⟨rfl, rfl, up_of (by repeat (first | (with_reducible exact Ext.refl _) | (with_reducible refine Ext.drewN ?_ _) | (with_reducible refine Ext.drew ?_) | (with_reducible refine Ext.alloc ?_ _) | ((with_reducible refine Ext.setCell ?_ ?_ _); rotate_left; focus (first | (simp; done) | (simp; omega) | omega)) | assumption | (with_reducible refine Ext.trans ?_ (by assumption)))), ?_⟩))); refine mix_nil ?_)
                                  have HCt := Lib.hid (ctr_ne (HIL.out.2 ya hyaS yb hybS) HVm.out HDF.out HNo.out)
                                  go_wp2_with (go_at_call 149; (with_reducible refine (spec_min _ _ _).mono ?_); rintro e w10 ⟨rfl, rfl⟩)
                                  exact ⟨⟨f + 1, _, by omega, by go_num, Lib.hid ((HY.out.ext hxr9).setL T2 _), Lib.hid (by rw [HT2.out]; exact HIL.out.put hld hlf hly hyaS hybS HYa.out HYb.out _ HCt.out)⟩, by simp [intOf]; omega⟩
                              · obtain rfl : f = bs := by omega
                                have HILe := Lib.hid HIL.out.endB
                                have HIEp := Lib.hid (HIE.out.pass HNo.out)
                                go_wp2_with fail
                                exact ⟨⟨d + 1, l2, vs2, E2, by omega, by go_num, HY, HILe, HIEp⟩, by simp [intOf]; omega⟩
                          · obtain rfl : d = bs := by omega
                            have HILe := Lib.hid (HIL.out.endA hly)
                            have HIEe := Lib.hid HIE.out.endA
                            go_wp2_with fail
                            exact ⟨⟨y + 1, l2, vs2, E2, by omega, by go_num, HY, HILe, HIEe⟩, by simp [intOf]; omega⟩
                    · obtain rfl : y = S := by omega
                      have HILe := Lib.hid HIL.out.endY
                      have HIEe := Lib.hid (HIE.out.endY hlx)
                      go_wp2_with fail
                      exact ⟨⟨x + 1, l2, vs2, E2, by omega, by go_num, HY, HILe, HIEe⟩, by simp [intOf]; omega⟩
                · obtain rfl : x = S := by omega
                  have HLd := Lib.hid (HIL.out.done HOK.out HhS.out Hhbs.out (by rw [HP.out]; exact hli))
                  have HEd := Lib.hid (HIE.out.done HOK.out HhS.out Hhbs.out (by rw [HP.out]; exact hli))
                  go_wp2_with fail
                  exact ⟨⟨i + 1, g10, g12, l2, vs2, E2, by omega, by go_num, rfl, rfl, Lib.hid (HY.out.rowL.mono hxo.le), Lib.hid (HY.out.rowB.mono hxo.le), Lib.hid HY.out.br, HEd, Lib.hid (fun x hx y hy => HLd.out x y hx hy), hxw⟩, by simp [intOf]; omega⟩
        · obtain rfl : i = n' := by omega
          obtain ⟨P1, Q1', hP1, hQ1, hQN, hwp1, hwq1⟩ := idx_wrap HN.out hS36' heS heS
          obtain ⟨hiaL, hceL, _⟩ := HRl.out.at (P := Try.prog) 25 und_int64s cell_int64 Q1' hQN .i64
          have HVm := HLo.out e heS e heS
          rw [I_getD _ _ (by rw [← I_len ll, HRl.out.len]; exact hQN)] at hceL
          rw [← hQ1, ← Hhe.out] at HVm
          have HVm := Lib.hid HVm
          change wr.cell? ⟨gl, Q1', none⟩ = some (.int .i64 (gi ll Q1')) at hceL
          generalize gi ll Q1' = v at HVm hceL
          have HLf : Hid (∀ d, LsT D i D.fin D.fin d → (d : Int) < (i : Int) + 1) := Lib.hid (fun d hd => by have := (LsT.bd D HOK.out i _ _ d (by rw [HP.out]; exact Nat.le_refl _) hd).2.2; omega)
          have hxz : Ext w wr := hxw1.trans hxo
          clear hP1 hQ1
          by_cases hvf : v = (i : Int) + 1
          · have HNo := Lib.hid (HVm.out.no (by omega) HLf.out)
            have hvb : (v == (i : Int) + 1) = true := by simpa using hvf
            clear hvf
            go_wp2_with fail
            go_ret2
            rw [HP.out]
            exact ⟨_, _, rfl, HNo.out, hxz⟩
          · have hvle := HVm.out.le
            have HYs := Lib.hid (HVm.out.yes (by omega))
            have hvb : (v == (i : Int) + 1) = false := by simpa using hvf
            clear hvf
            go_wp2_with fail
            go_ret2
            rw [HP.out]
            exact ⟨_, _, rfl, HYs.out, hxz⟩
end Go.Proofs.Ytaiieodllhoelaa

/- Walks: the distance of a pair of weightings, in the reference. -/
namespace Go.Proofs.Ytaiieodllhoelaa
set_option maxRecDepth 100000
open Go.RowKit

set_option maxHeartbeats 2000000 in
theorem spec_PairDistance (b : Int) (a : Option Addr) (n c : Nat) (l1 : List Int) (a2 : Option Addr) (n2 c2 : Nat) (l2 : List Int) (w : World) (h1 : Ints w a n c l1) (h2 : Ints w a2 n2 c2 l2) :
    Calls Try.prog 43 #[.int .i64 b, .slice a n c, .slice a2 n2 c2] w (RetPD (PairD b l1 l2) w) := by
  have HC := Lib.hid (fun W (h : Ext w W) => spec_PairChain b a n c l1 a2 n2 c2 l2 W (h1.ext h) (h2.ext h))
  clear h1 h2
  cases hok : pairB b l1 l2
  · rw [hok] at HC
    have HNo : Hid (∀ d, ¬ PairD b l1 l2 d) := Lib.hid (fun d hd => by have := hd.1; rw [hok] at this; cases this)
    clear hok
    go_enter Try.func43, Try.ntmps43
    go_wp2_with (go_at_call 36; (with_reducible refine (HC.out _ (by repeat (first | (with_reducible exact Ext.refl _) | (with_reducible refine Ext.drewN ?_ _) | (with_reducible refine Ext.drew ?_) | (with_reducible refine Ext.alloc ?_ _) | ((with_reducible refine Ext.setCell ?_ ?_ _); rotate_left; focus (first | (simp; done) | (simp; omega) | omega)) | assumption | (with_reducible refine Ext.trans ?_ (by assumption))))).mono ?_); rintro e w1 ⟨ca, cx, cc, cb, cy, cd, rfl, hcp, hy1⟩; have HY1 := Lib.hid hy1)
    go_ret2
    exact ⟨0, false, rfl, .inr ⟨rfl, rfl, HNo.out⟩, hy1.alloc _⟩
  · rw [hok] at HC
    obtain ⟨hval, _, _⟩ := pair_facts hok
    have HL := Lib.hid (fun W xa xn xc ya yn yc (h : ChIn W (pairCh b l1 l2) xa xn xc ya yn yc) => spec_LeastDistance (pairCh b l1 l2) xa xn xc ya yn yc W h hval)
    have HD : Hid (∀ d, LsT (pairCh b l1 l2) (pairCh b l1 l2).places.length (pairCh b l1 l2).fin (pairCh b l1 l2).fin d ↔ PairD b l1 l2 d) := Lib.hid (fun d => (both_ends _ d).symm.trans ⟨fun h => ⟨hok, h⟩, fun h => h.2⟩)
    clear hval hok
    generalize pairCh b l1 l2 = D at HC HL HD
    go_enter Try.func43, Try.ntmps43
    go_wp2_with (first | (go_at_call 36; (with_reducible refine (HC.out _ (by repeat (first | (with_reducible exact Ext.refl _) | (with_reducible refine Ext.drewN ?_ _) | (with_reducible refine Ext.drew ?_) | (with_reducible refine Ext.alloc ?_ _) | ((with_reducible refine Ext.setCell ?_ ?_ _); rotate_left; focus (first | (simp; done) | (simp; omega) | omega)) | assumption | (with_reducible refine Ext.trans ?_ (by assumption))))).mono ?_); rintro e w1 ⟨ca, cx, cc, cb, cy, cd, rfl, hcp, hy1⟩; have HY1 := Lib.hid hy1; have HI := Lib.hid hcp; clear hcp hy1) | (go_at_call 101; (with_reducible refine (HL.out _ _ _ _ _ _ _ (HI.out.ext ((Ext.refl _).alloc _))).mono ?_); rintro e w2 ⟨v, f, rfl, hd, hy2⟩; have HD2 := Lib.hid hd; have HY2 := Lib.hid hy2; clear hd hy2))
    go_ret2
    obtain ⟨rfl, _⟩ | ⟨rfl, _⟩ := HD2.out
    all_goals exact ⟨_, _, rfl, isD_iff HD.out HD2.out, HY1.out.trans (((Ext.refl _).alloc _).trans HY2.out)⟩
end Go.Proofs.Ytaiieodllhoelaa

/- Words: the least number as a value; both sides' distance of a pair by it. -/
namespace Go.Proofs.Ytaiieodllhoelaa
set_option maxRecDepth 100000
open Go.RowKit

open Classical in
noncomputable def leastD (P : Nat → Prop) : Int × Bool := if h : ∃ r : Int × Bool, IsD P r.1 r.2 then Classical.choose h else (0, false)
theorem IsD.eq {P : Nat → Prop} {v : Int} {f : Bool} (h : IsD P v f) : v = (leastD P).1 ∧ f = (leastD P).2 := by
  have hx : ∃ r : Int × Bool, IsD P r.1 r.2 := ⟨(v, f), h⟩
  unfold leastD
  rw [dif_pos hx]
  exact (Classical.choose_spec hx).uniq h
theorem RetPD.det {P : Nat → Prop} {w w' : World} {e : Ending} (h : RetPD P w e w') : Ret2 (.int .i64 (leastD P).1) (.bool (leastD P).2) w e w' := by
  obtain ⟨v, f, h1, h2, h3⟩ := h
  obtain ⟨rfl, rfl⟩ := h2.eq
  exact ⟨h1, h3⟩
theorem impl_PDk (b : Int) (a : Option Addr) (n c : Nat) (l1 : List Int) (a2 : Option Addr) (n2 c2 : Nat) (l2 : List Int) (w : World) (h1 : Ints w a n c l1) (h2 : Ints w a2 n2 c2 l2) :
    Calls Try.prog 44 #[.int .i64 b, .slice a n c, .slice a2 n2 c2] w (Ret2 (.int .i64 (leastD (PairD b l1 l2)).1) (.bool (leastD (PairD b l1 l2)).2) w) :=
  (impl_PairDistance b a n c l1 a2 n2 c2 l2 w h1 h2).mono fun _ _ h => h.det
theorem spec_PDk (b : Int) (a : Option Addr) (n c : Nat) (l1 : List Int) (a2 : Option Addr) (n2 c2 : Nat) (l2 : List Int) (w : World) (h1 : Ints w a n c l1) (h2 : Ints w a2 n2 c2 l2) :
    Calls Try.prog 43 #[.int .i64 b, .slice a n c, .slice a2 n2 c2] w (Ret2 (.int .i64 (leastD (PairD b l1 l2)).1) (.bool (leastD (PairD b l1 l2)).2) w) :=
  (spec_PairDistance b a n c l1 a2 n2 c2 l2 w h1 h2).mono fun _ _ h => h.det
end Go.Proofs.Ytaiieodllhoelaa
