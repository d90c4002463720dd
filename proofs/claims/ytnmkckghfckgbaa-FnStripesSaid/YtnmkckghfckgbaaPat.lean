/- Walks: patterns of bars and gaps. -/
import Derived.Test.YtnmkckghfckgbaaMix
import Derived.Test.YtnmkckghfckgbaaW2
import Derived.Test.YtnmkckghfckgbaaWords
namespace Go.Proofs.Ytnmkckghfckgbaa
set_option maxRecDepth 100000
open Go.RowKit

/-- no number is beyond B -/
def Bd (l : List Int) (B : Int) : Prop := ∀ x ∈ l, -B ≤ x ∧ x ≤ B
theorem Bd.gi {l : List Int} {B : Int} (h : Bd l B) {k : Nat} (hk : k < l.length) : -B ≤ gi l k ∧ gi l k ≤ B := h _ (gi_mem hk)
theorem sum_step {l : List Int} {k : Nat} (h : k < l.length) : (l.take (k + 1)).sum = (l.take k).sum + gi l k := by
  rw [take_gi h, List.sum_append]; simp
theorem sum_bd {l : List Int} {B : Int} (h : Bd l B) (k : Nat) (hk : k ≤ l.length) : -(B * k) ≤ (l.take k).sum ∧ (l.take k).sum ≤ B * k := by
  induction k with
  | zero => simp
  | succ k ih =>
    have h1 := ih (by omega)
    have h2 := h.gi (k := k) (by omega)
    rw [sum_step (by omega)]
    rw [show ((k + 1 : Nat) : Int) = (k : Int) + 1 by omega, Int.mul_add]
    omega

set_option maxHeartbeats 400000 in
theorem impl_sum (a : Option Addr) (n c : Nat) (l : List Int) (w : World) (hv : Ints w a n c l) (hb : Bd l 1099511627776) (hn : n ≤ 4194304) :
    Calls Try.prog 88 #[.slice a n c] w (Same (.int .i64 l.sum) w) := by
  have HL := Lib.hid hv.len
  obtain ⟨b, off, hix, hcell⟩ := hv.ix (P := Try.prog) 36 2 und_int64s cell_int64
  have hsb : ∀ k, k ≤ n → -(1099511627776 * (k : Int)) ≤ (l.take k).sum ∧ (l.take k).sum ≤ 1099511627776 * k := fun k hk => sum_bd hb k (by rw [HL.out]; exact hk)
  have hgb : ∀ k, k < n → -1099511627776 ≤ gi l k ∧ gi l k ≤ 1099511627776 := fun k hk => hb.gi (by rw [HL.out]; exact hk)
  have Hhv := Lib.hid hv; clear hv; have Hhb := Lib.hid hb; clear hb; have Hhsb := Lib.hid hsb; clear hsb; have Hhgb := Lib.hid hgb; clear hgb
  go_enter Try.func88, Try.ntmps88
  go_wp2
  go_loop [3, 8] (fun s i => ∃ k : Nat, k ≤ n ∧ i = .int .i64 k ∧ s = .int .i64 (l.take k).sum) (fun _ i => n - (intOf i).toNat)
  case atStart => exact ⟨0, Nat.zero_le _, rfl, rfl⟩
  case round =>
    obtain ⟨k, hk, rfl, rfl⟩ := hrel
    have h1 := Hhsb.out k hk
    by_cases hlt : k < n
    · have h2 := Hhgb.out k hlt
      have hs := Lib.hid (sum_step (l := l) (k := k) (by rw [HL.out]; exact hlt))
      go_wp2
      exact ⟨⟨k + 1, by omega, by go_num, by rw [hs.out]⟩, by simp [intOf]; omega⟩
    · go_wp2
      go_ret
      exact ⟨ri (by rw [take_full (by rw [HL.out]; omega)]), rfl⟩

/-! ### elements -/
def goodC (c : UInt8) : Bool := decide (49 ≤ c.toNat) && decide (c.toNat ≤ 52)
def elC (c : UInt8) : Int := (c.toNat : Int) - 48
def elsL (p : List UInt8) : List Int := p.map elC
def charsB (p : List UInt8) : Bool := p.all goodC
def patB (p : List UInt8) : Bool := charsB p && (inB p.length 1 10 && decide ((elsL p).sum ≤ 20))
theorem elsL_len (p : List UInt8) : (elsL p).length = p.length := by simp [elsL]
theorem elsL_snoc (s : ByteArray) (k : Nat) (h : k < s.size) : elsL (s.data.toList.take (k + 1)) = elsL (s.data.toList.take k) ++ [elC s[k]] := by
  rw [take_snoc _ 0 k (by simpa using h), elsL, List.map_append, byte_at s k h]; rfl
theorem goodC_bd {c : UInt8} (h : goodC c = true) : 49 ≤ c.toNat ∧ c.toNat ≤ 52 := by simpa [goodC] using h
theorem elsL_bd {p : List UInt8} (h : charsB p = true) : ∀ x ∈ elsL p, 1 ≤ x ∧ x ≤ 4 := fun x hx => by
  obtain ⟨c, hc, rfl⟩ := List.mem_map.1 hx
  have := goodC_bd (List.all_eq_true.1 h c hc)
  unfold elC; omega

theorem u8_sub48 {c : UInt8} (h : 49 ≤ c.toNat) : IntKind.u8.wrap ((c.toNat : Int) - 48) = (c.toNat : Int) - 48 := u8_sub (m := 48) (by omega) (by have := c.toNat_lt; omega)

/-- elements, and whether they are a pattern's; no elements where a letter is none -/
def RetWidths (p : List UInt8) (w : World) (e : Ending) (w' : World) : Prop :=
  ∃ a n c, e = .returned (.tuple #[.slice a n c, .bool (patB p)]) ∧ Ext w w' ∧ (charsB p = true → n = p.length ∧ Own w' w.heap.size 2 a n c (I (elsL p)))
set_option maxHeartbeats 1000000 in
theorem impl_widths (s : ByteArray) (w : World) (hs : s.size ≤ 1048576) :
    Calls Try.prog 72 #[.string s] w (RetWidths s.data.toList w) := by
  go_enter Try.func72, Try.ntmps72
  go_wp2_with fail
  go_loopw [2, 3, 4, 9] (fun _ _ v i wr => ∃ (k : Nat) (ad : Option Addr) (c : Nat), k ≤ s.size ∧ i = .int .i64 k ∧ v = .slice ad k c ∧ Own wr w.heap.size 2 ad k c (I (elsL (s.data.toList.take k))) ∧ Ext w wr ∧ charsB (s.data.toList.take k) = true) (fun _ _ _ i _ => s.size - (intOf i).toNat)
  case atStart => exact ⟨0, _, _, Nat.zero_le _, rfl, rfl, Own.lit0 w _, (Ext.refl w).alloc _, rfl⟩
  case round =>
    obtain ⟨k, ad, c, hk, rfl, rfl, ho, hx, hp⟩ := hrel
    have Hho := Lib.hid ho; clear ho; have Hhp := Lib.hid hp; clear hp
    by_cases hlt : k < s.size
    · have HN := Lib.hid (elsL_snoc s k hlt)
      have HS := Lib.hid (fun h => allc_step (p := goodC) hlt h Hhp.out)
      have HF := Lib.hid (fun h => allc_no (p := goodC) hlt h)
      cases hg : goodC s[k]
      · have HNo := Lib.hid (HF.out hg)
        have hb : ¬ 49 ≤ s[k].toNat ∨ ¬ s[k].toNat ≤ 52 := by unfold goodC at hg; simp at hg; omega
        clear HS HF hg HN
        by_cases h1 : 49 ≤ s[k].toNat
        all_goals
          go_wp2
          go_ret2
          exact ⟨none, 0, 0, by rw [show patB s.data.toList = false by unfold patB charsB; rw [HNo.out]; rfl]; rfl, hx, fun h => by rw [charsB, HNo.out] at h; cases h⟩
      · have hb := goodC_bd hg
        have HNo := Lib.hid (HS.out hg)
        have HU := Lib.hid (u8_sub48 hb.1)
        obtain ⟨b1, b2⟩ := hb
        clear HS HF hg
        have hw8 : IntKind.u8.wrap ((s[k].toNat : Int) - 48) = (s[k].toNat : Int) - 48 := HU.out
        go_wp2_with (at_builtin; refine law_append1 _ rfl _ _ 36 rfl 2 (.int .i64 0) 8 und_int64s info_int64 rfl w.heap.size ad k c _ _ rfl rfl rfl Hho.out (hx).le (by omega) (by omega) ?_; intro ad' c' w1 ho1 hb1 hg1; have hxw1 : Ext w w1 := Ext.below (hx) hb1)
        refine ⟨⟨k + 1, ad', c', by omega, by go_num, rfl, ?_, hx.below hb1, HNo.out⟩, by simp [intOf]; omega⟩
        rw [HN.out, I_append]
        exact ho1
    · obtain rfl : k = s.size := by omega
      have hc : charsB s.data.toList = true := by have := Hhp.out; rwa [take_full (by simp)] at this
      have hE := Hho.out
      rw [take_full (by simp)] at hE
      have HSum := Lib.hid (fun W h => impl_sum ad s.size c (elsL s.data.toList) W h (fun x hx => by have := elsL_bd hc x hx; omega) (by omega))
      have HE := Lib.hid hE
      have Hhc := Lib.hid hc; clear hc; have HhE := Lib.hid hE; clear hE
      cases hi : inB s.size 1 10
      · have HI := Lib.hid (fun W => impl_in s.size 1 10 W)
        rw [hi] at HI
        have HP := Lib.hid (show patB s.data.toList = false by unfold patB; simp only [size_eq, hi]; simp)
        clear hi
        go_wp2_with (go_at_call 87; refine (HI.out _).mono ?_; rintro e w' ⟨rfl, rfl⟩)
        go_ret2
        exact ⟨ad, s.size, c, by rw [HP.out]; rfl, hx, fun _ => ⟨by simp, HE.out⟩⟩
      · have HI := Lib.hid (fun W => impl_in s.size 1 10 W)
        rw [hi] at HI
        have HP := Lib.hid (show patB s.data.toList = decide ((elsL s.data.toList).sum ≤ 20) by unfold patB; rw [Hhc.out]; simp only [size_eq, hi]; simp)
        clear hi
        generalize (elsL s.data.toList).sum = sm at *
        go_wp2_with (first | (go_at_call 87; refine (HI.out _).mono ?_; rintro e w' ⟨rfl, rfl⟩) | (go_at_call 88; refine (HSum.out _ HE.out.ints).mono ?_; rintro e w' ⟨rfl, rfl⟩))
        go_ret2
        exact ⟨ad, s.size, c, by rw [HP.out]; rfl, hx, fun _ => ⟨by simp, HE.out⟩⟩

set_option maxHeartbeats 400000 in
theorem impl_elements (s : ByteArray) (w : World) (hs : s.size ≤ 1048576) (hc : charsB s.data.toList = true) :
    Calls Try.prog 53 #[.string s] w (RetOwn 2 (I (elsL s.data.toList)) w) := by
  have HC := Lib.hid hc
  go_enter Try.func53, Try.ntmps53
  go_wp2_with (go_at_call 72; refine (impl_widths s _ hs).mono ?_; rintro e w1 ⟨a, n, c, rfl, hx, ho⟩)
  go_ret
  obtain ⟨rfl, h2⟩ := ho HC.out
  exact RetOwn.mk h2 (by rw [elsL_len, size_eq]) hx
set_option maxHeartbeats 400000 in
theorem impl_isPattern (s : ByteArray) (w : World) (hs : s.size ≤ 1048576) :
    Calls Try.prog 86 #[.string s] w (Ret (.bool (patB s.data.toList)) w) := by
  go_enter Try.func86, Try.ntmps86
  go_wp2_with (go_at_call 72; refine (impl_widths s _ hs).mono ?_; rintro e w1 ⟨a, n, c, rfl, hx, ho⟩)
  go_ret
  exact ⟨rfl, hx⟩
set_option maxHeartbeats 400000 in
theorem impl_size (x : Int) (w : World) (h1 : -9223372036854775807 ≤ x) (h2 : x ≤ 9223372036854775807) :
    Calls Try.prog 96 #[.int .i64 x] w (Same (.int .i64 (max x (-x))) w) := by
  go_enter Try.func96, Try.ntmps96
  go_wp2
  all_goals (go_ret; exact ⟨ri (by omega), rfl⟩)
/-- the sum of the absolute differences -/
def apartL : List Int → List Int → Int
  | x :: xs, y :: ys => max (x - y) (-(x - y)) + apartL xs ys
  | _, _ => 0
theorem apartL_step : ∀ (a b : List Int) (k : Nat), k < a.length → k < b.length → apartL (a.take (k + 1)) (b.take (k + 1)) = apartL (a.take k) (b.take k) + max (gi a k - gi b k) (-(gi a k - gi b k))
  | x :: xs, y :: ys, 0, _, _ => by simp [apartL, gi]
  | x :: xs, y :: ys, k + 1, h1, h2 => by
    have := apartL_step xs ys k (by simpa using h1) (by simpa using h2)
    simp only [List.take_succ_cons, apartL]
    rw [this]
    simp only [gi, List.getD_cons_succ]
    omega
  | [], _, _, h, _ => by simp at h
  | _ :: _, [], _, _, h => by simp at h
theorem apartL_bd {a b : List Int} {B : Int} (ha : Bd a B) (hb : Bd b B) (_hB : 0 ≤ B) : ∀ k, k ≤ a.length → k ≤ b.length → 0 ≤ apartL (a.take k) (b.take k) ∧ apartL (a.take k) (b.take k) ≤ 2 * B * k := by
  intro k
  induction k with
  | zero => intro _ _; simp [apartL]
  | succ k ih =>
    intro h1 h2
    have h3 := ih (by omega) (by omega)
    have h4 := ha.gi (k := k) (by omega)
    have h5 := hb.gi (k := k) (by omega)
    rw [apartL_step _ _ _ (by omega) (by omega)]
    rw [show ((k + 1 : Nat) : Int) = (k : Int) + 1 by omega, Int.mul_add]
    omega
set_option maxHeartbeats 1000000 in
theorem impl_apart (a b : Option Addr) (n m c d : Nat) (l r : List Int) (w : World) (hv : Ints w a n c l) (hv' : Ints w b m d r) (hb : Bd l 1048576) (hb' : Bd r 1048576) (hn : n ≤ 1048576) (hm : n ≤ m) :
    Calls Try.prog 52 #[.slice a n c, .slice b m d] w (Ret (.int .i64 (apartL (l.take n) (r.take n))) w) := by
  have HL := Lib.hid hv.len
  have HL' := Lib.hid hv'.len
  obtain ⟨p, off, hix, hcell⟩ := hv.ix (P := Try.prog) 36 2 und_int64s cell_int64
  obtain ⟨p', off', hix', hcell'⟩ := hv'.ix (P := Try.prog) 36 2 und_int64s cell_int64
  have hsb : ∀ k, k ≤ n → 0 ≤ apartL (l.take k) (r.take k) ∧ apartL (l.take k) (r.take k) ≤ 2 * 1048576 * k := fun k hk => apartL_bd hb hb' (by omega) k (by rw [HL.out]; exact hk) (by rw [HL'.out]; omega)
  have hgb : ∀ k, k < n → -1048576 ≤ gi l k ∧ gi l k ≤ 1048576 := fun k hk => hb.gi (by rw [HL.out]; exact hk)
  have hgb' : ∀ k, k < n → -1048576 ≤ gi r k ∧ gi r k ≤ 1048576 := fun k hk => hb'.gi (by rw [HL'.out]; omega)
  have Hhv := Lib.hid hv; clear hv; have Hhv' := Lib.hid hv'; clear hv'; have Hhb := Lib.hid hb; clear hb; have Hhb' := Lib.hid hb'; clear hb'; have Hhsb := Lib.hid hsb; clear hsb; have Hhgb := Lib.hid hgb; clear hgb; have Hhgb' := Lib.hid hgb'; clear hgb'
  go_enter Try.func52, Try.ntmps52
  go_wp2
  go_loopw [5, 6, 9] (fun s _ i wr => ∃ k : Nat, k ≤ n ∧ i = .int .i64 k ∧ s = .int .i64 (apartL (l.take k) (r.take k)) ∧ Ext w wr) (fun _ _ i _ => n - (intOf i).toNat)
  case atStart => exact ⟨0, Nat.zero_le _, rfl, rfl, Ext.refl _⟩
  case round =>
    obtain ⟨k, hk, rfl, rfl, hx⟩ := hrel
    have h1 := Hhsb.out k hk
    by_cases hlt : k < n
    · have h2 := Hhgb.out k hlt
      have h3 := Hhgb'.out k hlt
      have hs := Lib.hid (apartL_step l r k (by rw [HL.out]; exact hlt) (by rw [HL'.out]; omega))
      have hkm : k < m := by omega
      go_wp2
      (refine wp_region_up (by kernel_rfl) (by kernel_rfl) (by kernel_rfl) ?_; (repeat (first | (refine mix_q rfl ?_; go_big_quiet_step (fail); refine wpQuiet_nil ?_; show wpMix _ _ _ _ _ _ _) | (refine mix_s rfl ?_; go_wp2_with ((go_at_call 96; refine (impl_size _ _ (by omega) (by omega)).mono ?_; rintro e w' ⟨rfl, rfl⟩)); first | refine ⟨up_of (by repeat (first | (with_reducible exact Ext.refl _) | (with_reducible refine Ext.drewN ?_ _) | (with_reducible refine Ext.drew ?_) | (with_reducible refine Ext.alloc ?_ _) | ((with_reducible refine Ext.setCell ?_ ?_ _); rotate_left; focus (first | (simp; done) | (simp; omega) | omega)) | assumption | (with_reducible refine Ext.trans ?_ (by assumption)))), ?_⟩ | refine ⟨rfl, rfl, up_of (by repeat (first | (with_reducible exact Ext.refl _) | (with_reducible refine Ext.drewN ?_ _) | (with_reducible refine Ext.drew ?_) | (with_reducible refine Ext.alloc ?_ _) | ((with_reducible refine Ext.setCell ?_ ?_ _); rotate_left; focus (first | (simp; done) | (simp; omega) | omega)) | assumption | (with_reducible refine Ext.trans ?_ (by assumption)))), ?_⟩))); refine mix_nil ?_)
      go_wp2
      exact ⟨⟨k + 1, by omega, by go_num, by rw [hs.out], (by repeat (first | (with_reducible exact Ext.refl _) | (with_reducible refine Ext.drewN ?_ _) | (with_reducible refine Ext.drew ?_) | (with_reducible refine Ext.alloc ?_ _) | ((with_reducible refine Ext.setCell ?_ ?_ _); rotate_left; focus (first | (simp; done) | (simp; omega) | omega)) | assumption | (with_reducible refine Ext.trans ?_ (by assumption))))⟩, by simp [intOf]; omega⟩
    · go_wp2
      go_ret
      obtain rfl : k = n := by omega
      exact ⟨rfl, hx⟩
end Go.Proofs.Ytnmkckghfckgbaa
