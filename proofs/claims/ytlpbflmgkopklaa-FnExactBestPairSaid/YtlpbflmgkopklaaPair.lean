/- Plain, walks: words of a pair of sums; the least number of symbols but 0 of such a word. -/
import Derived.Test.YtlpbflmgkopklaaLm
import Derived.Test.YtlpbflmgkopklaaLInts
namespace Go.Proofs.Ytlpbflmgkopklaa
set_option maxRecDepth 100000
open Go.RowKit

/-- sums of products -/
def dt (x y : List Int) (k : Nat) : Int := S k fun i => gi x i * gi y i
theorem dt_bd {x y : List Int} (hx : Small x) (hy : Small y) (k : Nat) (h1 : k ≤ x.length) (h2 : k ≤ y.length) : 0 ≤ dt x y k ∧ dt x y k ≤ 1296 * k := by
  have := S_bd (n := k) (f := fun i => gi x i * gi y i) (c := 1296) fun i hi => mul_bd (a := 36) (b := 36) (hx.at i (by omega)).1 (hx.at i (by omega)).2 (hy.at i (by omega)).1 (hy.at i (by omega)).2
  exact this
theorem dt_comm (x y : List Int) (k : Nat) : dt x y k = dt y x k := S_congr fun _ _ => Int.mul_comm _ _
/-- how many numbers are not 0 -/
def nz (x : List Int) (k : Nat) : Int := S k fun i => if gi x i = 0 then 0 else 1
theorem nz_bd (x : List Int) (k : Nat) : 0 ≤ nz x k ∧ nz x k ≤ k := by
  have := S_bd (n := k) (f := fun i => if gi x i = 0 then 0 else 1) (c := 1) fun i _ => by split <;> omega
  unfold nz; omega
theorem nz_step (x : List Int) (k : Nat) : nz x (k + 1) = nz x k + if gi x k = 0 then 0 else 1 := rfl
/-- digits are a word of a pair -/
def ofP (m : Nat) (one two d : List Int) (n : Nat) : Bool := hit (dt d one n) m && hit (dt d two n) m
/-- the least number of symbols but 0 of the first t words; 0 without one -/
def apF (m n : Nat) (one two : List Int) : Nat → Int
  | 0 => 0
  | t + 1 => if (decide (0 < nz (tupAt m n t) n) && ofP m one two (tupAt m n t) n && (decide (apF m n one two t = 0) || decide (nz (tupAt m n t) n < apF m n one two t))) = true then nz (tupAt m n t) n else apF m n one two t
theorem apF_bd (m n : Nat) (one two : List Int) : ∀ t, 0 ≤ apF m n one two t ∧ apF m n one two t ≤ n
  | 0 => by simp [apF]
  | t + 1 => by
    have h1 := apF_bd m n one two t
    have h2 := nz_bd (tupAt m n t) n
    rw [apF]
    split <;> omega
def farI (z : Int) : Int := if z = 0 then 1099511627776 else z
theorem apF_far {m n : Nat} {one two : List Int} {t : Nat} (hn : n ≤ 1000) : (decide (0 < nz (tupAt m n t) n) && (decide (nz (tupAt m n t) n < farI (apF m n one two t)))) = (decide (0 < nz (tupAt m n t) n) && (decide (apF m n one two t = 0) || decide (nz (tupAt m n t) n < apF m n one two t))) := by
  have h1 := apF_bd m n one two t
  have h2 := nz_bd (tupAt m n t) n
  rw [Bool.eq_iff_iff]
  unfold farI
  split <;> simp [*] <;> omega
theorem zero_tup {m : Nat} (hm : 0 < m) : ∀ {n t : Nat}, t < m ^ n → (∀ x ∈ tupAt m n t, x = 0) → t = 0
  | 0, t, ht, _ => by simpa using ht
  | n + 1, t, ht, h => by
    have hp : 0 < m ^ n := Nat.pow_pos hm
    have h1 := h _ (List.mem_cons_self ..)
    have h2 := zero_tup hm (Nat.mod_lt t hp) (fun x hx => h x (List.mem_cons_of_mem _ hx))
    have h3 := Nat.div_add_mod t (m ^ n)
    have h4 : t / m ^ n = 0 := by exact_mod_cast h1
    rw [h4, h2] at h3
    omega
theorem nz_zero {x : List Int} {n : Nat} (hl : x.length = n) (h : ¬ 0 < nz x n) : ∀ y ∈ x, y = 0 := fun y hy => by
  obtain ⟨i, hi, rfl⟩ := List.mem_iff_getElem.1 hy
  rcases Decidable.em (gi x i = 0) with e | e
  · rw [← gi_get hi]; exact e
  · have := S_one (n := n) (f := fun i => if gi x i = 0 then 0 else 1) (fun i _ => by split <;> omega) (k := i) (by omega)
    simp only [if_neg e] at this
    unfold nz at h
    omega
theorem nz_pos {m n t : Nat} (hm : 0 < m) (ht : t < m ^ n) (h0 : 0 < t) : 0 < nz (tupAt m n t) n := by
  rcases Decidable.em (0 < nz (tupAt m n t) n) with h | h
  · exact h
  · have := zero_tup hm ht (nz_zero (tupAt_len m n t) h); omega
theorem tup_small {m n t : Nat} (hm : 0 < m) (hm36 : m ≤ 36) (ht : t < m ^ n) : Small (tupAt m n t) := fun x hx => by have := tupAt_bd hm ht x hx; omega
set_option maxHeartbeats 2000000 in
theorem impl_ofPair (m n : Nat) (a1 a2 a3 : Option Addr) (c1 c2 c3 : Nat) (one two d : List Int) (w : World) (h1 : Ints w a1 n c1 one) (h2 : Ints w a2 n c2 two) (h3 : Ints w a3 n c3 d) (hn : n ≤ 20) (hm : 1 ≤ m) (hm2 : m ≤ 36) (s1 : Small one) (s2 : Small two) (s3 : Small d) :
    Calls Try.prog 78 #[.int .i64 m, .slice a1 n c1, .slice a2 n c2, .slice a3 n c3] w (Qt (.bool (ofP m one two d n)) w) := by
  have H1 := Lib.hid h1
  have H2 := Lib.hid h2
  have H3 := Lib.hid h3
  have HB1 := Lib.hid (fun k (hk : k ≤ n) => dt_bd s3 s1 k (by rw [h3.len]; exact hk) (by rw [h1.len]; exact hk))
  have HB2 := Lib.hid (fun k (hk : k ≤ n) => dt_bd s3 s2 k (by rw [h3.len]; exact hk) (by rw [h2.len]; exact hk))
  have HE1 := Lib.hid (fun k (hk : k < n) => And.intro (s3.at k (by rw [h3.len]; exact hk)) (s1.at k (by rw [h1.len]; exact hk)))
  have HE2 := Lib.hid (fun k (hk : k < n) => s2.at k (by rw [h2.len]; exact hk))
  clear h1 h2 h3 s1 s2 s3
  go_enter Try.func78, Try.ntmps78
  go_wp2_with fail
  go_loopw [9, 10, 11, 12, 15] (fun s9 s10 _ _ s15 wr => ∃ (k : Nat) (x y : Int), k ≤ n ∧ s15 = .int .i64 k ∧ s9 = .int .i64 x ∧ s10 = .int .i64 y ∧ Hid (x = dt d one k) ∧ Hid (y = dt d two k) ∧ ∃ q, wr = w.drewN q) (fun _ _ _ _ s15 _ => n - (intOf s15).toNat)
  case atStart => exact ⟨0, 0, 0, Nat.zero_le _, rfl, rfl, rfl, rfl, rfl, 0, rfl⟩
  case round =>
    obtain ⟨k, x, y, hk, rfl, rfl, rfl, HX, HY, q, rfl⟩ := hrel
    have hx := HB1.out k hk
    have hy := HB2.out k hk
    rw [← HX.out] at hx
    rw [← HY.out] at hy
    by_cases hlt : k < n
    · obtain ⟨b1, o1, i1, e1⟩ := H1.out.at 22 2 und_int64s cell_int64 k hlt .i64
      obtain ⟨b2, o2, i2, e2⟩ := H2.out.at 22 2 und_int64s cell_int64 k hlt .i64
      obtain ⟨b3, o3, i3, e3⟩ := H3.out.at 22 2 und_int64s cell_int64 k hlt .i64
      have hd := (HE1.out k hlt).1
      have ho := (HE1.out k hlt).2
      have ht := HE2.out k hlt
      have HNx := Lib.hid (show dt d one (k + 1) = x + d.getD k 0 * one.getD k 0 by rw [HX.out]; rfl)
      have HNy := Lib.hid (show dt d two (k + 1) = y + d.getD k 0 * two.getD k 0 by rw [HY.out]; rfl)
      generalize one.getD k 0 = u at *
      generalize two.getD k 0 = v at *
      generalize d.getD k 0 = z at *
      have hzu := mul_bd hd.1 hd.2 ho.1 ho.2
      have hzv := mul_bd hd.1 hd.2 ht.1 ht.2
      go_wp2
      go_quiet (fail)
      go_wp2
      exact ⟨⟨k + 1, _, _, by omega, by go_num, rfl, rfl, HNx.out.symm, HNy.out.symm, (by first | exact ⟨_, rfl⟩ | exact ⟨_, World.drewN_drewN _ _ _⟩)⟩, by simp [intOf]; omega⟩
    · obtain rfl : n = k := by omega
      have HR := Lib.hid (show ofP m one two d n = (hit x m && hit y m) by rw [ofP, HX.out, HY.out])
      have hhx := hit_tmod x m
      have hhy := hit_tmod y m
      have ex : x.tmod m = x % m := Int.tmod_eq_emod_of_nonneg hx.1
      have ey : y.tmod m = y % m := Int.tmod_eq_emod_of_nonneg hy.1
      rw [ex] at hhx
      rw [ey] at hhy
      clear ex ey HX HY
      cases hbx : hit x m
      · rw [hbx] at hhx HR
        clear hbx hhy
        go_wp2_with fail
        go_ret
        exact ⟨rb HR.out.symm, _, rfl⟩
      · rw [hbx] at hhx HR
        clear hbx
        go_wp2_with fail
        go_ret
        exact ⟨rb (by rw [HR.out, ← hhy]; rfl), _, rfl⟩
end Go.Proofs.Ytlpbflmgkopklaa
