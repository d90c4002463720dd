/- Plain, walks: words of a pair of sums. -/
import Derived.Test.YtaiieodllhoelaaKinds
import Derived.Test.YtaiieodllhoelaaLInts
namespace Go.Proofs.Ytaiieodllhoelaa
set_option maxRecDepth 100000
open Go.RowKit

/-- sums of products -/
def dt (x y : List Int) (k : Nat) : Int := S k fun i => gi x i * gi y i
theorem dt_bd {x y : List Int} (hx : Small x) (hy : Small y) (k : Nat) (h1 : k ≤ x.length) (h2 : k ≤ y.length) : 0 ≤ dt x y k ∧ dt x y k ≤ 1296 * k := by
  have := S_bd (n := k) (f := fun i => gi x i * gi y i) (c := 1296) fun i hi => mul_bd (a := 36) (b := 36) (hx.at i (by omega)).1 (hx.at i (by omega)).2 (hy.at i (by omega)).1 (hy.at i (by omega)).2
  exact this
theorem dt_comm (x y : List Int) (k : Nat) : dt x y k = dt y x k := S_congr fun _ _ => Int.mul_comm _ _
/-- digits are a word of a pair -/
def ofP (m : Nat) (one two d : List Int) (n : Nat) : Bool := hit (dt d one n) m && hit (dt d two n) m
set_option maxHeartbeats 2000000 in
theorem impl_ofPair (m n : Nat) (a1 a2 a3 : Option Addr) (c1 c2 c3 : Nat) (one two d : List Int) (w : World) (h1 : Ints w a1 n c1 one) (h2 : Ints w a2 n c2 two) (h3 : Ints w a3 n c3 d) (hn : n ≤ 20) (hm : 1 ≤ m) (hm2 : m ≤ 36) (s1 : Small one) (s2 : Small two) (s3 : Small d) :
    Calls Try.prog 105 #[.int .i64 m, .slice a1 n c1, .slice a2 n c2, .slice a3 n c3] w (Qt (.bool (ofP m one two d n)) w) := by
  have H1 := Lib.hid h1
  have H2 := Lib.hid h2
  have H3 := Lib.hid h3
  have HB1 := Lib.hid (fun k (hk : k ≤ n) => dt_bd s3 s1 k (by rw [h3.len]; exact hk) (by rw [h1.len]; exact hk))
  have HB2 := Lib.hid (fun k (hk : k ≤ n) => dt_bd s3 s2 k (by rw [h3.len]; exact hk) (by rw [h2.len]; exact hk))
  have HE1 := Lib.hid (fun k (hk : k < n) => And.intro (s3.at k (by rw [h3.len]; exact hk)) (s1.at k (by rw [h1.len]; exact hk)))
  have HE2 := Lib.hid (fun k (hk : k < n) => s2.at k (by rw [h2.len]; exact hk))
  clear h1 h2 h3 s1 s2 s3
  go_enter Try.func105, Try.ntmps105
  go_wp2_with fail
  go_loopw [9, 10, 11, 12, 15] (fun s9 s10 _ _ s15 wr => ∃ (k : Nat) (x y : Int), k ≤ n ∧ s15 = .int .i64 k ∧ s9 = .int .i64 x ∧ s10 = .int .i64 y ∧ Hid (x = dt d one k) ∧ Hid (y = dt d two k) ∧ ∃ q, wr = w.drewN q) (fun _ _ _ _ s15 _ => n - (intOf s15).toNat)
  case atStart => exact ⟨0, 0, 0, Nat.zero_le _, rfl, rfl, rfl, rfl, rfl, 0, rfl⟩
  case round =>
    obtain ⟨k, x, y, hk, rfl, rfl, rfl, HX, HY, q, rfl⟩ := hrel
    have hx := HB1.out k hk
    have hy := HB2.out k hk
    rw [← HX.out] at hx
    rw [← HY.out] at hy
    by_cases hlt : k < n
    · obtain ⟨b1, o1, i1, e1⟩ := H1.out.at 25 2 und_int64s cell_int64 k hlt .i64
      obtain ⟨b2, o2, i2, e2⟩ := H2.out.at 25 2 und_int64s cell_int64 k hlt .i64
      obtain ⟨b3, o3, i3, e3⟩ := H3.out.at 25 2 und_int64s cell_int64 k hlt .i64
      have hd := (HE1.out k hlt).1
      have ho := (HE1.out k hlt).2
      have ht := HE2.out k hlt
      have HNx := Lib.hid (show dt d one (k + 1) = x + d.getD k 0 * one.getD k 0 by rw [HX.out]; rfl)
      have HNy := Lib.hid (show dt d two (k + 1) = y + d.getD k 0 * two.getD k 0 by rw [HY.out]; rfl)
      generalize one.getD k 0 = u at *
      generalize two.getD k 0 = v at *
      generalize d.getD k 0 = z at *
      have hzu := mul_bd hd.1 hd.2 ho.1 ho.2
      have hzv := mul_bd hd.1 hd.2 ht.1 ht.2
      go_wp2
      go_quiet (fail)
      go_wp2
      exact ⟨⟨k + 1, _, _, by omega, by go_num, rfl, rfl, HNx.out.symm, HNy.out.symm, (by first | exact ⟨_, rfl⟩ | exact ⟨_, World.drewN_drewN _ _ _⟩)⟩, by simp [intOf]; omega⟩
    · obtain rfl : n = k := by omega
      have HR := Lib.hid (show ofP m one two d n = (hit x m && hit y m) by rw [ofP, HX.out, HY.out])
      have hhx := hit_tmod x m
      have hhy := hit_tmod y m
      have ex : x.tmod m = x % m := Int.tmod_eq_emod_of_nonneg hx.1
      have ey : y.tmod m = y % m := Int.tmod_eq_emod_of_nonneg hy.1
      rw [ex] at hhx
      rw [ey] at hhy
      clear ex ey HX HY
      cases hbx : hit x m
      · rw [hbx] at hhx HR
        clear hbx hhy
        go_wp2_with fail
        go_ret
        exact ⟨rb HR.out.symm, _, rfl⟩
      · rw [hbx] at hhx HR
        clear hbx
        go_wp2_with fail
        go_ret
        exact ⟨rb (by rw [HR.out, ← hhy]; rfl), _, rfl⟩
end Go.Proofs.Ytaiieodllhoelaa
