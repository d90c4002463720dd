/- Plain: the law on weightings: the chain's words and the sum, the mirror, multiples, texts. Conditions: none. -/
import Derived.Test.YtgnlabdikmbbgaaGreatDoorWtE
import Derived.Test.YtgnlabdikmbbgaaGreatDoorRankM
import Derived.Test.YtgnlabdikmbbgaaGreatDoorSpl
namespace Go.Proofs.YtgnlabdikmbbgaaGreatDoor
set_option maxRecDepth 100000
open Go.RowKit

theorem wl_base {b : Int} (hb : b ∈ ([10, 10, 2, 3, 5, 7, 11] : List Int)) : 2 ≤ b ∧ b ≤ 11 := by simp at hb; omega
theorem wl_pow {b : Int} (hb : b ∈ ([10, 10, 2, 3, 5, 7, 11] : List Int)) {n : Nat} (h1 : 1 ≤ n) (h4 : n ≤ 4) : b ^ n ≤ 1000000000000000 := by
  have h : b = 10 ∨ b = 2 ∨ b = 3 ∨ b = 5 ∨ b = 7 ∨ b = 11 := by simp at hb; omega
  have hn : n = 1 ∨ n = 2 ∨ n = 3 ∨ n = 4 := by omega
  rcases h with rfl | rfl | rfl | rfl | rfl | rfl <;> rcases hn with rfl | rfl | rfl | rfl <;> decide
theorem wl_valid {X : Wt} (hb : X.base ∈ ([10, 10, 2, 3, 5, 7, 11] : List Int)) (h1 : 1 ≤ X.weights.length) (h4 : X.weights.length ≤ 4) (hm : 2 ≤ X.modulus) (hm2 : X.modulus ≤ 36) (ht0 : 0 ≤ X.target) (ht1 : X.target < X.modulus) (hw : ∀ x ∈ X.weights, 0 ≤ x ∧ x < X.modulus) : validB X = true := by
  have hbd := wl_base hb
  have hi : inB (X.weights.length : Int) 1 20 = true := inB_t.2 (by omega)
  have hB : baseB X.base = true := by unfold baseB; exact inB_t.2 (by omega)
  unfold validB
  rw [manyB_in hB hi, decide_eq_true (wl_pow hb h1 h4), inB_t.2 ⟨hm, hm2⟩, inB_t.2 ⟨ht0, by omega⟩]
  simp only [Bool.true_and]
  unfold belowB
  rw [List.all_eq_true]
  intro x hx
  have := hw x hx
  exact inB_t.2 (by omega)

/-! ### sums -/
theorem dot_snoc : ∀ (xs ys : List Int) (a b : Int), xs.length = ys.length → dot (xs ++ [a]) (ys ++ [b]) = dot xs ys + a * b
  | [], [], a, b, _ => by simp [dot]
  | [], _ :: _, _, _, h => by cases h
  | _ :: _, [], _, _, h => by cases h
  | x :: xs, y :: ys, a, b, h => by
    simp only [List.cons_append, dot]
    rw [dot_snoc xs ys a b (Nat.succ.inj h)]
    omega
theorem dot_rev : ∀ (xs ys : List Int), xs.length = ys.length → dot xs.reverse ys.reverse = dot xs ys
  | [], [], _ => rfl
  | [], _ :: _, h => by cases h
  | _ :: _, [], h => by cases h
  | x :: xs, y :: ys, h => by
    rw [List.reverse_cons, List.reverse_cons, dot_snoc _ _ _ _ (by simpa using h), dot_rev xs ys (Nat.succ.inj h)]
    simp only [dot]; omega
theorem dot_mul (b m : Int) : ∀ (xs ys : List Int), dot (xs.map fun x => x * b % m) ys % m = b * dot xs ys % m
  | [], ys => by simp [dot]
  | x :: xs, [] => by simp [dot]
  | x :: xs, y :: ys => by
    have ih := dot_mul b m xs ys
    simp only [List.map_cons, dot]
    have e1 : b * (x * y + dot xs ys) = x * b * y + b * dot xs ys := by rw [Int.mul_add, ← Int.mul_assoc, Int.mul_comm b x]
    have e2 : x * b % m * y % m = x * b * y % m := by rw [Int.mul_emod, Int.emod_emod_of_dvd _ (Int.dvd_refl m), ← Int.mul_emod]
    rw [e1, Int.add_emod, ih, e2, ← Int.add_emod]
theorem wt_runL {X : Wt} (h : validB X = true) {ds : List Int} (hd : ∀ d ∈ ds, 0 ≤ d ∧ d < X.base) (hl : ds.length = X.weights.length) : ∀ k, k ≤ ds.length → runS (wtCh X) 0 0 (ds.take k) = dot (X.weights.take k) (ds.take k) % X.modulus := by
  have hA := validB_addOk h
  have hm := hA.m1
  intro k
  induction k with
  | zero => intro _; simp [dot, runS]
  | succ k ih =>
    intro hk
    rw [runS_step _ (by omega), ih (by omega), Int.zero_add, dot_take _ _ k (by omega) (by omega)]
    have hg := hd _ (gi_mem (l := ds) (k := k) (by omega))
    have h0 := Int.emod_nonneg (dot (X.weights.take k) (ds.take k)) (show X.modulus ≠ 0 by omega)
    have h1 := Int.emod_lt_of_pos (dot (X.weights.take k) (ds.take k)) (show 0 < X.modulus by omega)
    show nextS (wtCh X) _ _ (gi ds k) = (dot (X.weights.take k) (ds.take k) + gi X.weights k * gi ds k) % X.modulus
    generalize hx : dot (X.weights.take k) (ds.take k) % X.modulus = x at *
    have hz : dot (X.weights.take k) (ds.take k) % X.modulus = x := hx
    generalize gi ds k = d at *
    obtain ⟨x, rfl⟩ := Int.eq_ofNat_of_zero_le h0
    obtain ⟨d, rfl⟩ := Int.eq_ofNat_of_zero_le hg.1
    have hn := addCh_next hA (p := k) (d := d) (x := x) (by rw [List.length_map]; omega) h1 hg.2
    have hgl : gl (X.weights.map (wgL X.base.toNat)) k = wgL X.base.toNat (gi X.weights k) := by
      rw [gl_get (by rw [List.length_map]; omega), List.getElem_map, ← gi_get]
    have hgi : gi (wgL X.base.toNat (gi X.weights k)) d = gi X.weights k * (d : Int) := by
      rw [gi_get (by rw [wgL_len]; omega)]; simp [wgL]
    have hw : nextS (wtCh X) ((k : Nat) : Int) (x : Int) (d : Int) = ((x : Int) + gi X.weights k * (d : Int)) % X.modulus := by
      unfold wtCh; rw [hn, hgl, hgi]
    rw [hw, ← hz, Int.emod_add_emod]
theorem wt_lenL (X : Wt) : (wtCh X).places.length = X.weights.length := (addF_inv (X.weights.map (wgL X.base.toNat)) _ (Nat.le_refl _)).1.trans (List.length_map ..)
theorem wt_chkL {X : Wt} (h : validB X = true) {ds : List Int} (hd : ∀ d ∈ ds, 0 ≤ d ∧ d < X.base) (hl : ds.length = X.weights.length) : chkB (wtCh X) (textOf ds) = decide (dot X.weights ds % X.modulus = X.target) := by
  have hval : validCh (wtCh X) = true := addCh_valid (validB_addOk h)
  have hok := validCh_ok hval
  have hr := wt_runL h hd hl ds.length (Nat.le_refl _)
  rw [List.take_length, hl, List.take_length] at hr
  rw [chkB_text hok hval hd (by rw [wt_lenL]; exact hl)]
  show decide (runS (wtCh X) 0 0 ds = X.target) = _
  rw [hr]
/-- times a number without common divisors -/
theorem mul_same {b m : Nat} {s t : Int} (hb : Nat.gcd b m = 1) (_hm : 0 < m) (ht0 : 0 ≤ t) (ht1 : t < m) : ((b : Int) * s % m = t * b % m) ↔ s % m = t := by
  constructor
  · intro h
    have h1 : (m : Int) ∣ (b : Int) * (s - t) := by
      have h2 : ((b : Int) * s - t * b) % m = 0 := by rw [Int.sub_emod, h]; simp
      have h3 := Int.dvd_of_emod_eq_zero h2
      rwa [Int.mul_comm t, ← Int.mul_sub] at h3
    have h4 : (m : Int) ∣ s - t := by
      have h5 := Int.natAbs_dvd_natAbs.2 h1
      rw [Int.natAbs_mul, Int.natAbs_natCast, Int.natAbs_natCast] at h5
      have hc : Nat.Coprime m b := by rw [Nat.coprime_iff_gcd_eq_one, Nat.gcd_comm]; exact hb
      exact Int.natAbs_dvd_natAbs.1 (by rw [Int.natAbs_natCast]; exact hc.dvd_of_dvd_mul_left h5)
    have h6 : s % m = t % m := Int.emod_eq_emod_iff_emod_sub_eq_zero.2 (Int.emod_eq_zero_of_dvd h4)
    rw [h6, Int.emod_eq_of_lt ht0 ht1]
  · intro h
    rw [Int.mul_emod, h, Int.mul_comm t (b : Int), Int.mul_emod (b : Int) t, Int.emod_eq_of_lt ht0 ht1]

/-! ### texts -/
theorem mem_join {c x : UInt8} : ∀ (ps : List (List UInt8)), x ∈ Go.Lib.join ps [c] → x = c ∨ ∃ p ∈ ps, x ∈ p
  | [], h => by simp [Go.Lib.join_nil] at h
  | [p], h => by rw [Go.Lib.join_one] at h; exact .inr ⟨p, List.mem_cons_self .., h⟩
  | p :: q :: qs, h => by
    rw [join_more] at h
    rcases List.mem_append.1 h with h | h
    · exact .inr ⟨p, List.mem_cons_self .., h⟩
    · rcases List.mem_cons.1 h with h | h
      · exact .inl h
      · rcases mem_join (q :: qs) h with h | ⟨p', h1, h2⟩
        · exact .inl h
        · exact .inr ⟨p', List.mem_cons_of_mem _ h1, h2⟩
theorem join_len (c : UInt8) (m : Nat) : ∀ (ps : List (List UInt8)), (∀ p ∈ ps, p.length ≤ m) → (Go.Lib.join ps [c]).length ≤ (m + 1) * ps.length
  | [], _ => by simp [Go.Lib.join_nil]
  | [p], h => by rw [Go.Lib.join_one]; have := h p (List.mem_cons_self ..); simp; omega
  | p :: q :: qs, h => by
    rw [join_more]
    have h1 := h p (List.mem_cons_self ..)
    have h2 := join_len c m (q :: qs) (fun x hx => h x (List.mem_cons_of_mem _ hx))
    simp only [List.length_append, List.length_cons, Nat.mul_add, Nat.mul_one] at h2 ⊢
    omega
/-- a number below 100 -/
def In100 (x : Int) : Prop := 0 ≤ x ∧ x < 100
theorem dec_100 {x : Int} (h : In100 x) : 47 ∉ bl (decS x) ∧ 32 ∉ bl (decS x) ∧ 110 ∉ bl (decS x) ∧ Go.Lib.parseIntB 64 (bl (decS x)) = .ok x ∧ (decS x).size ≤ 2 ∧ 1 ≤ (decS x).size := by
  obtain ⟨n, rfl⟩ := Int.eq_ofNat_of_zero_le h.1
  have h2 := h.2
  have hd := dec_small ⟨n, by omega⟩
  have he : bl (decS (n : Int)) = Go.Lib.itoa (n : Int) := by simp [bl, decS]
  refine ⟨by rw [he]; exact hd.1, by rw [he]; exact hd.2.1, by rw [he]; exact hd.2.2.2.2, by rw [he]; exact hd.2.2.1, ?_, decS_pos _ h.1⟩
  rw [← bl_len, he]; exact hd.2.2.2.1
def numsT (l : List Int) : ByteArray := joinS 32 (l.map decS)
def wtT (X : Wt) : ByteArray := joinS 47 [decS X.base, decS X.modulus, decS X.target, numsT X.weights]
theorem joinS_bl (c : UInt8) (ps : List ByteArray) : bl (joinS c ps) = Go.Lib.join (ps.map bl) [c] := by simp [bl, joinS]
theorem joinS_size (c : UInt8) (ps : List ByteArray) (m : Nat) (h : ∀ p ∈ ps, p.size ≤ m) : (joinS c ps).size ≤ (m + 1) * ps.length := by
  rw [← bl_len, joinS_bl]
  have := join_len c m (ps.map bl) (fun p hp => by obtain ⟨q, hq, rfl⟩ := List.mem_map.1 hp; rw [bl_len]; exact h q hq)
  rwa [List.length_map] at this
section
variable {l : List Int} (h : ∀ x ∈ l, In100 x)
include h
theorem nums_no {c : UInt8} (hc : c = 47 ∨ c = 110) : c ∉ bl (numsT l) := by
  rw [numsT, joinS_bl]
  intro hm
  rcases mem_join _ hm with h1 | ⟨p, h1, h2⟩
  · subst h1; rcases hc with hc | hc <;> exact absurd hc (by decide)
  · rw [List.map_map] at h1
    obtain ⟨x, hx, rfl⟩ := List.mem_map.1 h1
    obtain ⟨a1, _, a3, _⟩ := dec_100 (h x hx)
    rcases hc with rfl | rfl
    · exact a1 h2
    · exact a3 h2
theorem nums_size : (numsT l).size ≤ 3 * l.length := by
  have := joinS_size 32 (l.map decS) 2 (fun p hp => by obtain ⟨x, hx, rfl⟩ := List.mem_map.1 hp; exact (dec_100 (h x hx)).2.2.2.2.1)
  rwa [List.length_map] at this
theorem nums_split (hl : l ≠ []) : Go.Lib.splitB ⟨#[32]⟩ 0 (Go.Lib.countB (numsT l) ⟨#[32]⟩) (numsT l) = l.map decS ∧ Go.Lib.countB (numsT l) ⟨#[32]⟩ + 1 = l.length := by
  have h0 : l.map decS ≠ [] := by simpa using hl
  have h1 : ∀ x ∈ l.map decS, (32 : UInt8) ∉ bl x := fun x hx => by obtain ⟨y, hy, rfl⟩ := List.mem_map.1 hx; exact (dec_100 (h y hy)).2.1
  refine ⟨splitB_join h0 h1, ?_⟩
  have := count_join h0 h1
  rwa [List.length_map] at this
theorem nums_none : (numsT l).toList ≠ [110, 111, 110, 101] := by
  intro he
  have h1 : bl (numsT l) = [110, 111, 110, 101] := by rw [← he, ByteArray.toList_eq]; rfl
  exact nums_no h (.inr rfl) (by rw [h1]; simp)
end
theorem wtT_cat (X : Wt) : decS X.base ++ ⟨#[47]⟩ ++ decS X.modulus ++ ⟨#[47]⟩ ++ decS X.target ++ ⟨#[47]⟩ ++ numsT X.weights = wtT X := by
  apply bl_ext
  rw [wtT, joinS_bl]
  have e : bl (⟨#[47]⟩ : ByteArray) = [47] := rfl
  simp only [List.map_cons, List.map_nil, join_more, Go.Lib.join_one, bl_app, e]
  simp [List.append_assoc]
/-- a weighting whose numbers are small -/
structure WtS (X : Wt) : Prop where
  b : In100 X.base
  m : In100 X.modulus
  t : In100 X.target
  w : ∀ x ∈ X.weights, In100 x
  n1 : 1 ≤ X.weights.length
  n4 : X.weights.length ≤ 20
theorem WtS.split {X : Wt} (h : WtS X) : Go.Lib.splitB ⟨#[47]⟩ 0 (Go.Lib.countB (wtT X) ⟨#[47]⟩) (wtT X) = [decS X.base, decS X.modulus, decS X.target, numsT X.weights] ∧ Go.Lib.countB (wtT X) ⟨#[47]⟩ + 1 = 4 := by
  have h1 : ∀ x ∈ [decS X.base, decS X.modulus, decS X.target, numsT X.weights], (47 : UInt8) ∉ bl x := fun x hx => by
    simp only [List.mem_cons, List.not_mem_nil, or_false] at hx
    rcases hx with rfl | rfl | rfl | rfl
    · exact (dec_100 h.b).1
    · exact (dec_100 h.m).1
    · exact (dec_100 h.t).1
    · exact nums_no h.w (.inl rfl)
  exact ⟨splitB_join (by simp) h1, count_join (by simp) h1⟩
theorem WtS.size {X : Wt} (h : WtS X) : (wtT X).size ≤ 300 := by
  have h1 := nums_size h.w
  have h2 := (dec_100 h.b).2.2.2.2.1
  have h3 := (dec_100 h.m).2.2.2.2.1
  have h4 := (dec_100 h.t).2.2.2.2.1
  have h5 := h.n4
  have := joinS_size 47 [decS X.base, decS X.modulus, decS X.target, numsT X.weights] 60 (fun p hp => by
    simp only [List.mem_cons, List.not_mem_nil, or_false] at hp
    rcases hp with rfl | rfl | rfl | rfl <;> omega)
  simp only [List.length_cons, List.length_nil] at this
  rw [wtT]; omega
end Go.Proofs.YtgnlabdikmbbgaaGreatDoor
