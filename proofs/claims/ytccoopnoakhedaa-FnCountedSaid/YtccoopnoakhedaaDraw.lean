/- All lists of digits below a number, one after another: plain laws. -/
import Derived.Test.YtccoopnoakhedaaBase
import Derived.Test.YtccoopnoakhedaaW1
import Derived.Deep.LoopGhost
namespace Go.Proofs.Ytccoopnoakhedaa
set_option maxRecDepth 100000
open Go.RowKit

/-- the list that comes t-th among those of n digits below m -/
def tupAt (m : Nat) : Nat → Nat → List Int
  | 0, _ => []
  | n + 1, t => ((t / m ^ n : Nat) : Int) :: tupAt m n (t % m ^ n)
theorem tupAt_len (m n t : Nat) : (tupAt m n t).length = n := by
  induction n generalizing t with
  | zero => rfl
  | succ n ih => simp [tupAt, ih]
theorem tupAt_zero (m n : Nat) : tupAt m n 0 = List.replicate n 0 := by
  induction n with
  | zero => rfl
  | succ n ih => simp [tupAt, ih, List.replicate_succ]
theorem tupAt_bd {m n t : Nat} (hm : 0 < m) (ht : t < m ^ n) : ∀ x ∈ tupAt m n t, 0 ≤ x ∧ x < m := by
  induction n generalizing t with
  | zero => intro x hx; simp [tupAt] at hx
  | succ n ih =>
    have hp : 0 < m ^ n := Nat.pow_pos hm
    intro x hx
    simp only [tupAt, List.mem_cons] at hx
    rcases hx with rfl | hx
    · have : t / m ^ n < m := by rw [Nat.div_lt_iff_lt_mul hp]; rw [Nat.pow_succ, Nat.mul_comm] at ht; exact ht
      exact ⟨Int.natCast_nonneg _, Int.ofNat_lt.2 this⟩
    · exact ih (Nat.mod_lt _ hp) x hx
/-- each list is met -/
theorem tupAt_all {m n : Nat} (hm : 0 < m) {l : List Int} (hl : l.length = n) (hb : ∀ x ∈ l, 0 ≤ x ∧ x < m) : ∃ t, t < m ^ n ∧ tupAt m n t = l := by
  induction n generalizing l with
  | zero => exact ⟨0, by simp, by rw [List.length_eq_zero_iff] at hl; rw [hl]; rfl⟩
  | succ n ih =>
    cases l with
    | nil => simp at hl
    | cons x xs =>
      obtain ⟨t, ht, he⟩ := ih (l := xs) (by simpa using hl) (fun y hy => hb y (by simp [hy]))
      have hx := hb x (by simp)
      have hp : 0 < m ^ n := Nat.pow_pos hm
      refine ⟨x.toNat * m ^ n + t, ?_, ?_⟩
      · have : (x.toNat + 1) * m ^ n ≤ m * m ^ n := Nat.mul_le_mul_right _ (by omega)
        rw [Nat.pow_succ, Nat.mul_comm (m ^ n)]
        rw [Nat.add_mul] at this
        omega
      · have e1 : (x.toNat * m ^ n + t) / m ^ n = x.toNat := by
          rw [Nat.mul_comm, Nat.mul_add_div hp, Nat.div_eq_of_lt ht]; omega
        have e2 : (x.toNat * m ^ n + t) % m ^ n = t := by
          rw [Nat.mul_comm, Nat.mul_add_mod, Nat.mod_eq_of_lt ht]
        simp only [tupAt, e1, e2, he]
        rw [Int.toNat_of_nonneg hx.1]

/-- the next list; none behind the last one -/
def succT (m : Int) : List Int → Option (List Int)
  | [] => none
  | x :: xs => match succT m xs with
    | some ys => some (x :: ys)
    | none => if x + 1 < m then some ((x + 1) :: List.replicate xs.length 0) else none
theorem succT_at {m n t : Nat} (hm : 0 < m) (ht : t < m ^ n) : succT m (tupAt m n t) = if t + 1 < m ^ n then some (tupAt m n (t + 1)) else none := by
  induction n generalizing t with
  | zero => simp at ht; subst ht; simp [tupAt, succT]
  | succ n ih =>
    have hp : 0 < m ^ n := Nat.pow_pos hm
    have hr := Nat.mod_lt t hp
    have hd := Nat.div_add_mod t (m ^ n)
    have hq : t / m ^ n < m := by rw [Nat.div_lt_iff_lt_mul hp]; rw [Nat.pow_succ, Nat.mul_comm] at ht; exact ht
    simp only [tupAt, succT]
    rw [ih hr]
    by_cases h : t % m ^ n + 1 < m ^ n
    · rw [if_pos h]
      have e1 : (t + 1) / m ^ n = t / m ^ n := by
        rw [show t + 1 = m ^ n * (t / m ^ n) + (t % m ^ n + 1) by omega, Nat.mul_add_div hp, Nat.div_eq_of_lt h]; omega
      have e2 : (t + 1) % m ^ n = t % m ^ n + 1 := by
        rw [show t + 1 = m ^ n * (t / m ^ n) + (t % m ^ n + 1) by omega, Nat.mul_add_mod, Nat.mod_eq_of_lt h]
      have e3 : t + 1 < m ^ (n + 1) := by
        have : m ^ n * (t / m ^ n + 1) ≤ m ^ n * m := Nat.mul_le_mul_left _ (by omega)
        rw [Nat.mul_add] at this
        rw [Nat.pow_succ]; omega
      simp only [e1, e2]
      rw [if_pos e3]
    · rw [if_neg h]
      have hr1 : t % m ^ n + 1 = m ^ n := by omega
      have ht1 : t + 1 = m ^ n * (t / m ^ n + 1) := by rw [Nat.mul_add]; omega
      have e1 : (t + 1) / m ^ n = t / m ^ n + 1 := by rw [ht1, Nat.mul_div_cancel_left _ hp]
      have e2 : (t + 1) % m ^ n = 0 := by rw [ht1, Nat.mul_mod_right]
      simp only [e1, e2, tupAt_zero, tupAt_len]
      by_cases h3 : t / m ^ n + 1 < m
      · have e3 : t + 1 < m ^ (n + 1) := by
          have : m ^ n * (t / m ^ n + 1) < m ^ n * m := Nat.mul_lt_mul_of_pos_left h3 hp
          rw [Nat.pow_succ]; omega
        rw [if_pos e3]
        rw [if_pos (by have := Int.ofNat_lt.2 h3; omega)]
        congr 1
      · have e3 : ¬ t + 1 < m ^ (n + 1) := by
          have : t / m ^ n + 1 = m := by omega
          rw [ht1, this, Nat.pow_succ]; omega
        rw [if_neg e3]
        rw [if_neg (by intro h; exact h3 (Int.ofNat_lt.1 (by omega)))]
theorem succT_full {m : Int} {q : List Int} (h : ∀ x ∈ q, x = m - 1) : succT m q = none := by
  induction q with
  | nil => rfl
  | cons x xs ih =>
    simp only [succT]
    rw [ih fun y hy => h y (by simp [hy])]
    have := h x (by simp)
    simp only
    rw [if_neg (by omega)]
theorem succT_step {m : Int} (p : List Int) {x : Int} {q : List Int} (h : ∀ y ∈ q, y = m - 1) (hx : x + 1 < m) : succT m (p ++ x :: q) = some (p ++ (x + 1) :: List.replicate q.length 0) := by
  induction p with
  | nil => simp only [List.nil_append, succT]; rw [succT_full h]; simp only; rw [if_pos hx]
  | cons y ys ih => simp only [List.cons_append, succT]; rw [ih]
end Go.Proofs.Ytccoopnoakhedaa

/- Walks: a function is called with all lists of digits, one after another. -/
namespace Go.Proofs.Ytccoopnoakhedaa
set_option maxRecDepth 100000
open Go.RowKit

/-- block g apart, nothing that was there has changed -/
structure Touch (g : Nat) (w w' : World) : Prop where
  os : w'.os = w.os
  tape : w'.tape = w.tape
  output : w'.output = w.output
  size : w.heap.size ≤ w'.heap.size
  block : ∀ k, k < w.heap.size → k ≠ g → w'.heap[k]? = w.heap[k]?
theorem Touch.set (g : Nat) (w : World) (k : Nat) (u : Value) : Touch g w (w.setCell ⟨g, k, none⟩ u) :=
  ⟨rfl, rfl, rfl, by simp [World.setCell], fun i _ hi => Below.heap_setCell _ _ _ _ hi⟩
theorem Own.same {w w' : World} {B : Nat} {E : TypeId} {g n c : Nat} {vs : List Value} (h : Own w B E (some ⟨g, 0, none⟩) n c vs) (hb : w'.heap[g]? = w.heap[g]?) : Own w' B E (some ⟨g, 0, none⟩) n c vs := by
  refine ⟨h.1, ?_⟩
  rcases h.2 with h2 | ⟨g', cap, cur, hv, hB, hg, r⟩
  · exact .inl h2
  · simp only [Value.slice.injEq, Option.some.injEq, Addr.mk.injEq, and_true, true_and] at hv
    obtain ⟨rfl, rfl⟩ := hv
    exact .inr ⟨g, c, cur, rfl, hB, by rw [hb]; exact hg, r⟩

def Tuples (m n g : Nat) (f : Nat) (caps : Array Value) (Inv : Nat → World → Prop) (Fin : World → Prop) : Prop :=
  ∀ t wr, t < m ^ n → Inv t wr → Own wr g 2 (some ⟨g, 0, none⟩) n n (I (tupAt m n t)) →
    Calls Try.prog f (#[.slice (some ⟨g, 0, none⟩) n n] ++ caps) wr fun e w' => (e = .returned (.bool true) ∧ Inv (t + 1) w' ∧ w'.heap[g]? = wr.heap[g]?) ∨ (e = .returned (.bool false) ∧ Fin w')

theorem tup_set (l : List Int) (j n : Nat) (x : Int) (hl : l.length = n) (hj : j < n) : (l.take (j + 1) ++ List.replicate (n - (j + 1)) 0).set j x = l.take j ++ x :: List.replicate (n - (j + 1)) 0 := by
  have : l.take (j + 1) = l.take j ++ [l.getD j 0] := take_snoc l 0 j (by omega)
  rw [this, List.append_assoc, List.set_append_right _ _ (by simp; omega)]
  simp [List.length_take, show min j l.length = j by omega]

theorem tup_get (l : List Int) (j n : Nat) (hl : l.length = n) (hj : j < n) : (l.take (j + 1) ++ List.replicate (n - (j + 1)) 0).getD j 0 = l.getD j 0 := by
  rw [List.getD_eq_getElem?_getD, List.getElem?_append_left (by simp; omega), List.getElem?_take, if_pos (by omega), List.getD_eq_getElem?_getD]
theorem tup_zero (l : List Int) (j n : Nat) (hj : j < n) : l.take j ++ (0 : Int) :: List.replicate (n - (j + 1)) 0 = l.take j ++ List.replicate (n - j) 0 := by
  rw [show n - j = (n - (j + 1)) + 1 by omega, List.replicate_succ]
theorem tup_drop (l : List Int) (j : Nat) (hj : j < l.length) : l.drop j = l.getD j 0 :: l.drop (j + 1) := by
  rw [List.drop_eq_getElem_cons hj, List.getD_eq_getElem?_getD, List.getElem?_eq_getElem hj]; rfl
theorem tup_next {m n t j : Nat} (hm : 0 < m) (ht : t < m ^ n) (hj : j < n) (hq : ∀ y ∈ (tupAt m n t).drop (j + 1), y = (m : Int) - 1) (hd : (tupAt m n t).getD j 0 ≠ (m : Int) - 1) :
    t + 1 < m ^ n ∧ tupAt m n (t + 1) = (tupAt m n t).take j ++ ((tupAt m n t).getD j 0 + 1) :: List.replicate (n - (j + 1)) 0 := by
  have hl := tupAt_len m n t
  have hb := tupAt_bd hm ht _ (getD_mem (tupAt m n t) 0 j (by omega))
  have h1 := succT_step (m := m) ((tupAt m n t).take j) (x := (tupAt m n t).getD j 0) hq (by omega)
  rw [← tup_drop _ j (by omega), List.take_append_drop, succT_at hm ht] at h1
  split at h1
  · rename_i h
    refine ⟨h, ?_⟩
    simp only [Option.some.injEq] at h1
    rw [h1, List.length_drop, hl]
  · cases h1
theorem tup_end {m n t : Nat} (hm : 0 < m) (ht : t < m ^ n) (hq : ∀ y ∈ tupAt m n t, y = (m : Int) - 1) : t + 1 = m ^ n := by
  have h1 := succT_full hq
  rw [succT_at hm ht] at h1
  split at h1
  · cases h1
  · omega

set_option maxHeartbeats 2000000 in
theorem impl_tuples (m n : Nat) (f : Nat) (caps : Array Value) (Inv : Nat → World → Prop) (Fin : World → Prop) (w : World) (hm : 1 ≤ m) (hm2 : m ≤ 1048576) (hn : n ≤ 1048576)
    (he : ∀ args w', (callFunc f args).run Try.prog w' = .ok (.enter f args) w')
    (h0 : ∀ wr, Touch w.heap.size w wr → Inv 0 wr) (hst : ∀ t wr wr', Inv t wr → Touch w.heap.size wr wr' → Inv t wr')
    (hs : Tuples m n w.heap.size f caps Inv Fin) :
    Calls Try.prog 44 #[.int .i64 m, .int .i64 n, .func (.func f) #[] caps] w fun e w' => e = .returned (.tuple #[]) ∧ (Inv (m ^ n) w' ∨ Fin w') := by
  have HS := Lib.hid hs
  have HST := Lib.hid hst
  have H0 := Lib.hid h0
  obtain ⟨g, hg⟩ : ∃ g, g = w.heap.size := ⟨_, rfl⟩
  clear hs hst h0
  go_enter Try.func44, Try.ntmps44
  go_wp2_with (at_make; refine law_make _ rfl _ _ 25 rfl 2 (.int .i64 0) 8 und_int64s info_int64 rfl _ _ n rfl rfl (by omega) (by unfold maxLen; omega) ?_; intro w1 hown hx hsz)
  have HI1 := Lib.hid (H0.out w1 ⟨hx.os, hx.tape, hx.output, hx.size, fun k hk _ => hx.block k hk⟩)
  rw [← hg] at HST HS hown
  rw [← hg]
  have HO1 := Lib.hid hown
  clear hown hx hsz hg H0
  go_wp2
  go_loopg [7] (m ^ n) (fun gk _ wr => ∃ t, t < m ^ n ∧ gk = m ^ n - t ∧ Inv t wr ∧ Own wr g 2 (some ⟨g, 0, none⟩) n n (I (tupAt m n t)))
  case atStart =>
    exact ⟨0, Nat.pow_pos (by omega), by omega, HI1.out, by rw [tupAt_zero, I_replicate]; exact HO1.out⟩
  case round =>
    obtain ⟨t, ht, rfl, hi, ho⟩ := hrel
    have HC := Lib.hid (HS.out t _ ht hi ho)
    have HO := Lib.hid ho
    have HT := Lib.hid ht
    clear hi ho HI1 HO1 ht
    go_wp2_with (refine HC.out.mono ?_; rintro e w2 (⟨rfl, hi2, hb2⟩ | ⟨rfl, hf2⟩))
    · have HI2 := Lib.hid hi2
      have HO2 := Lib.hid (HO.out.same hb2)
      clear hi2 hb2
      go_wp2
      go_loopg [7] n (fun gk s7 wr => ∃ (j : Nat) (x : Int), j ≤ n ∧ j = gk ∧ s7 = .int .i64 x ∧ Hid (x = (j : Int) - 1) ∧ Hid (Own wr g 2 (some ⟨g, 0, none⟩) n n (I ((tupAt m n t).take j ++ List.replicate (n - j) 0))) ∧ Hid (∀ y ∈ (tupAt m n t).drop j, y = (m : Int) - 1) ∧ Hid (Inv (t + 1) wr))
      case atStart =>
        refine ⟨n, (n : Int) - 1, Nat.le_refl _, rfl, rfl, rfl, ?_, ?_, HI2⟩
        · rw [Hid, take_full (by rw [tupAt_len]; exact Nat.le_refl _), Nat.sub_self]; simpa using HO2.out
        · rw [Hid, List.drop_of_length_le (by rw [tupAt_len]; exact Nat.le_refl _)]; intro y hy; cases hy
      case round =>
        rename_i wr3
        obtain ⟨j, x, hj, rfl, rfl, HX, HO3, HQ, HI3⟩ := hrel
        clear HO2 HI2 HO HC
        cases j with
        | zero =>
          obtain rfl : x = -1 := by rw [HX.out]; rfl
          have HE := Lib.hid (tup_end (by omega) HT.out (by simpa using HQ.out))
          go_wp2
          exact bodyPost_ret (v := .tuple #[]) (by simp [results, Try.results44, go_sem]) rfl ⟨rfl, .inl (by rw [← HE.out]; exact HI3.out)⟩
        | succ j =>
          obtain rfl : x = (j : Int) := by rw [HX.out]; omega
          obtain ⟨hia, hcell, hfr⟩ := HO3.out.at 25 und_int64s cell_int64 j (by omega) .i64
          rw [I_getD _ _ (by simp [tupAt_len]; omega), tup_get _ j n (tupAt_len m n t) (by omega)] at hcell
          have hdb := tupAt_bd (by omega) HT.out _ (getD_mem (tupAt m n t) 0 j (by rw [tupAt_len]; omega))
          have HS2 := Lib.hid (fun x => tup_set (tupAt m n t) j n x (tupAt_len m n t) (by omega))
          by_cases hd : (tupAt m n t).getD j 0 = (m : Int) - 1
          · have HQ2 := Lib.hid (show ∀ y ∈ (tupAt m n t).drop j, y = (m : Int) - 1 by
              rw [tup_drop _ j (by rw [tupAt_len]; omega), hd]; intro y hy; rcases List.mem_cons.1 hy with rfl | hy; rfl; exact HQ.out y hy)
            rw [hd] at hcell hdb
            clear hd
            go_wp2
            go_roundg j
            case measure => omega
            case rel =>
              refine ⟨j, (j : Int) - 1, by omega, rfl, rfl, rfl, ?_, HQ2, HST.out _ _ _ HI3.out (Touch.set g _ _ _)⟩
              have := HO3.out.set j (.int .i64 0)
              rw [I_set, HS2.out, tup_zero _ j n (by omega)] at this
              exact this
          · obtain ⟨ht1, ht2⟩ := tup_next (by omega) HT.out (by omega) HQ.out hd
            have HT2 := Lib.hid ht2
            have HTN := Lib.hid ht1
            generalize (tupAt m n t).getD j 0 = d at *
            have hb : (d == (m : Int) - 1) = false := by simpa using hd
            clear hd ht2 ht1
            go_wp2
            go_roundg (m ^ n - (t + 1))
            case measure => have := HTN.out; omega
            case rel =>
              refine ⟨t + 1, HTN.out, rfl, HST.out _ _ _ HI3.out (Touch.set g _ _ _), ?_⟩
              have := HO3.out.set j (.int .i64 (d + 1))
              rw [I_set, HS2.out, ← HT2.out] at this
              exact this
    · go_wp2
      exact bodyPost_ret (v := .tuple #[]) (by simp [results, Try.results44, go_sem]) rfl ⟨rfl, .inr hf2⟩
end Go.Proofs.Ytccoopnoakhedaa

/- Walks: choices out of bytes. -/
namespace Go.Proofs.Ytccoopnoakhedaa
set_option maxRecDepth 100000
open Go.RowKit

def U8 (l : List UInt8) : List Value := l.map fun c => .int .u8 c.toNat
/-- the slice (a, n, ..) holds the bytes l -/
def Bytes (w : World) (a : Option Addr) (n c : Nat) (l : List UInt8) : Prop := Sl w a n c (U8 l)
theorem Bytes.len {w : World} {a : Option Addr} {n c : Nat} {l : List UInt8} (h : Bytes w a n c l) : l.length = n := by have := Sl.len h; simpa [U8] using this
theorem Bytes.ext {w w' : World} {a : Option Addr} {n c : Nat} {l : List UInt8} (h : Bytes w a n c l) (hx : Ext w w') : Bytes w' a n c l := Sl.ext h hx
theorem und_bytes : Try.prog.underlying 22 = some (.slice 5) := Try.underlying22
theorem cell_uint8 : Try.prog.cellsOf 5 = 1 := by kernel_rfl
theorem Bytes.at {P : Program} {w : World} {a : Option Addr} {n c : Nat} {l : List UInt8} (h : Bytes w a n c l) (T E : TypeId) (ht : P.underlying T = some (.slice E)) (he : P.cellsOf E = 1)
    (k : Nat) (hk : k < n) (K : IntKind) : ∃ b off, (∀ w', (Instr.indexAt T (.slice a n c) (.int K k)).run P w' = .ok (.pointer (some ⟨b, off, none⟩)) w') ∧ ∃ x : Nat, x < 256 ∧ x = (l.getD k 0).toNat ∧ w.cell? ⟨b, off, none⟩ = some (.int .u8 x) := by
  obtain ⟨b, off, h1, h2⟩ := Sl.at h T E ht he k hk K
  refine ⟨b, off, h1, (l.getD k 0).toNat, (l.getD k 0).toNat_lt, rfl, ?_⟩
  rw [h2]
  have : k < l.length := by rw [h.len]; exact hk
  simp [U8, List.getD_eq_getElem?_getD, this]


/-- block b holds a source of choices -/
structure Src (w : World) (b : Nat) (a : Option Addr) (n c : Nat) (k : Int) : Prop where
  c0 : w.cell? ⟨b, 0, none⟩ = some (.slice a n c)
  c1 : w.cell? ⟨b, 1, none⟩ = some (.int .i64 k)
  c2 : ∃ s : Int, w.cell? ⟨b, 2, none⟩ = some (.int .u64 s)
  fr : ∀ j, w.frozen? ⟨b, j, none⟩ = false

theorem u64_and255 (x : Int) : 0 ≤ bits .and .u64 x 255 ∧ bits .and .u64 x 255 ≤ 255 := by
  have h : (BitVec.ofInt 64 x &&& BitVec.ofInt 64 255).toNat ≤ 255 := by
    rw [BitVec.toNat_and]
    exact Nat.le_trans Nat.and_le_right (by decide)
  have e : bits .and .u64 x 255 = IntKind.u64.wrap ((BitVec.ofInt 64 x &&& BitVec.ofInt 64 255).toNat : Int) := rfl
  rw [e]
  generalize (BitVec.ofInt 64 x &&& BitVec.ofInt 64 255).toNat = n at *
  have : IntKind.u64.wrap (n : Int) = n := by simp [IntKind.wrap, IntKind.bits, IntKind.signed]; omega
  omega
theorem wrap_and255 (x : Int) : 0 ≤ wrap64 (bits .and .u64 x 255) ∧ wrap64 (bits .and .u64 x 255) ≤ 255 := by
  have := u64_and255 x
  rw [IntWalk.wrap64_in _ (by omega)]
  exact this

def RetNext (b : Nat) (a : Option Addr) (n c : Nat) (k : Int) (w : World) (e : Ending) (w' : World) : Prop :=
  ∃ x : Int, e = .returned (.int .i64 x) ∧ (0 ≤ x ∧ x ≤ 255) ∧ Src w' b a n c (k + 1) ∧ Touch b w w'
theorem src_upd {w : World} {b : Nat} {a : Option Addr} {n c : Nat} {k k' s' : Int} (h : Src w b a n c k) (m m' : Nat) : Src ((((w.drewN m).setCell ⟨b, 1, none⟩ (.int .i64 k')).setCell ⟨b, 2, none⟩ (.int .u64 s')).drewN m') b a n c k' ∧ Touch b w ((((w.drewN m).setCell ⟨b, 1, none⟩ (.int .i64 k')).setCell ⟨b, 2, none⟩ (.int .u64 s')).drewN m') := by
  obtain ⟨c0, c1, ⟨s, c2⟩, fr⟩ := h
  refine ⟨⟨?_, ?_, ⟨s', ?_⟩, fun j => ?_⟩, ?_⟩
  · rw [World.cell?_drewN, World.cell?_setCell_other _ _ _ _ (by simp), World.cell?_setCell_other _ _ _ _ (by simp), World.cell?_drewN]; exact c0
  · rw [World.cell?_drewN, World.cell?_setCell_other _ _ _ _ (by simp)]
    exact World.cell?_setCell_same _ _ _ (u := .int .i64 k) (by rw [World.cell?_drewN]; exact c1)
  · rw [World.cell?_drewN]
    exact World.cell?_setCell_same _ _ _ (u := .int .u64 s) (by rw [World.cell?_setCell_other _ _ _ _ (by simp), World.cell?_drewN]; exact c2)
  · show World.frozen? (((w.drewN m).setCell ⟨b, 1, none⟩ (.int .i64 k')).setCell ⟨b, 2, none⟩ (.int .u64 s')) ⟨b, j, none⟩ = false
    rw [World.frozen?_setCell, World.frozen?_setCell]; exact fr j
  · refine ⟨rfl, rfl, rfl, by simp [World.setCell, World.drewN], fun i _ hi => ?_⟩
    show (((w.drewN m).setCell ⟨b, 1, none⟩ (.int .i64 k')).setCell ⟨b, 2, none⟩ (.int .u64 s')).heap[i]? = w.heap[i]?
    rw [Below.heap_setCell _ _ _ _ hi, Below.heap_setCell _ _ _ _ hi]; rfl

set_option maxHeartbeats 1000000 in
theorem src_next (b : Nat) (a : Option Addr) (n c : Nat) (l : List UInt8) (k : Int) (w : World) (h : Src w b a n c k) (hl : Bytes w a n c l) (hk : 0 ≤ k) (hk2 : k ≤ 1000000000) (_hn : n ≤ 4611686018427387904) :
    Calls Try.prog 34 #[.pointer (some ⟨b, 0, none⟩)] w (RetNext b a n c k w) := by
  have HU := Lib.hid (fun k' s' m m' => src_upd h (k' := k') (s' := s') m m')
  obtain ⟨c0, c1, ⟨s, c2⟩, fr⟩ := h
  obtain ⟨k, rfl⟩ := Int.eq_ofNat_of_zero_le hk
  have fr1 := fr 1
  have fr2 := fr 2
  have HFR := Lib.hid fr
  clear fr
  by_cases h2 : k < n
  · obtain ⟨b1, off, hia, x, hx, hxe, hc⟩ := hl.at 22 5 und_bytes cell_uint8 k h2 .i64
    clear hl hxe
    go_enter Try.func34, Try.ntmps34
    go_wp2
    go_quiet (fail)
    go_wp2
    go_quiet (fail)
    go_wp2
    go_quiet (fail)
    go_wp2
    go_ret
    exact ⟨_, rfl, ⟨by omega, by omega⟩, HU.out _ _ _ _⟩
  · clear hl
    go_enter Try.func34, Try.ntmps34
    go_wp2
    go_quiet (fail)
    go_wp2
    go_quiet (fail)
    go_wp2
    go_ret
    exact ⟨_, rfl, wrap_and255 _, HU.out _ _ _ _⟩

theorem Touch.refl (g : Nat) (w : World) : Touch g w w := ⟨rfl, rfl, rfl, Nat.le_refl _, fun _ _ _ => rfl⟩
theorem Touch.trans {g : Nat} {a b c : World} (h : Touch g a b) (k : Touch g b c) : Touch g a c :=
  ⟨k.os.trans h.os, k.tape.trans h.tape, k.output.trans h.output, Nat.le_trans h.size k.size, fun i hi hne => (k.block i (Nat.lt_of_lt_of_le hi h.size) hne).trans (h.block i hi hne)⟩
theorem Ext.touch {a w w' : World} (h : Ext a w) {g : Nat} (ht : Touch g w w') (hg : a.heap.size ≤ g) : Ext a w' :=
  h.below ⟨ht.os, ht.tape, ht.output, ht.size, fun k hk => ht.block k (Nat.lt_of_lt_of_le hk h.size) (by omega)⟩
theorem Src.below {w w' : World} {b : Nat} {a : Option Addr} {n c : Nat} {k : Int} (h : Src w b a n c k) {B : Nat} (hb : Below B w w') (hB : b < B) : Src w' b a n c k := by
  obtain ⟨c0, c1, ⟨s, c2⟩, fr⟩ := h
  exact ⟨(hb.cell (p := ⟨b, 0, none⟩) hB).trans c0, (hb.cell (p := ⟨b, 1, none⟩) hB).trans c1, ⟨s, (hb.cell (p := ⟨b, 2, none⟩) hB).trans c2⟩, fun j => (hb.frozen (p := ⟨b, j, none⟩) hB).trans (fr j)⟩
theorem Own.touchNe {w w' : World} {B : Nat} {E : TypeId} {a : Option Addr} {n c g : Nat} {vs : List Value} (h : Own w B E a n c vs) (ht : Touch g w w') (hB : g < B) : Own w' B E a n c vs := by
  refine ⟨h.1, ?_⟩
  rcases h.2 with h2 | ⟨g', cap, cur, hv, hB', hg, r⟩
  · exact .inl h2
  · exact .inr ⟨g', cap, cur, hv, hB', by rw [ht.block g' (Array.getElem?_eq_some_iff.1 hg).1 (by omega)]; exact hg, r⟩
theorem Src.new (w : World) (a : Option Addr) (n c : Nat) (T : TypeId) : Src (w.alloc (.cells #[.slice a n c, .int .i64 0, .int .u64 0] T)) w.heap.size a n c 0 :=
  ⟨by go_simp, by go_simp, ⟨0, by go_simp⟩, fun j => by simp [World.frozen?_alloc_new]⟩

/-- a number below n, chosen -/
def RetPick (b : Nat) (a : Option Addr) (n c : Nat) (k m : Int) (w : World) (e : Ending) (w' : World) : Prop :=
  ∃ x k' : Int, e = .returned (.int .i64 x) ∧ 0 ≤ x ∧ (x < m ∨ (x = 0 ∧ m ≤ 1)) ∧ Src w' b a n c k' ∧ k ≤ k' ∧ k' ≤ k + 2 ∧ Touch b w w'
theorem touch_bytes {w w' : World} {a : Option Addr} {n c : Nat} {l : List UInt8} {b : Nat} (h : Bytes w a n c l) (ht : Touch b w w') (hb : 0 < n → ∀ x, a = some x → x.block ≠ b) : Bytes w' a n c l := by
  refine ⟨Sl.len h, Sl.cap h, fun h0 => ?_⟩
  obtain ⟨b1, off, ha, hc⟩ := Sl.cells h h0
  exact ⟨b1, off, ha, fun k hk => (World.cell?_of_block (w := w) (ht.block b1 (World.block_lt_of_cell? w _ (hc k hk)) (hb h0 _ ha))).trans (hc k hk)⟩
set_option maxHeartbeats 1000000 in
theorem src_pick (b : Nat) (a : Option Addr) (n c : Nat) (l : List UInt8) (k m : Int) (w : World) (h : Src w b a n c k) (hl : Bytes w a n c l) (hab : 0 < n → ∀ x, a = some x → x.block ≠ b) (hk : 0 ≤ k) (hk2 : k ≤ 999999999) (hn : n ≤ 4611686018427387904) (hm : m ≤ 4611686018427387904) :
    Calls Try.prog 15 #[.pointer (some ⟨b, 0, none⟩), .int .i64 m] w (RetPick b a n c k m w) := by
  have HN := Lib.hid (src_next b a n c l k w h hl hk (by omega) hn)
  have HN2 := Lib.hid (fun w' (h' : Src w' b a n c (k + 1)) (ht : Touch b w w') => src_next b a n c l (k + 1) w' h' (touch_bytes hl ht hab) (by omega) (by omega) hn)
  have HS := Lib.hid h
  clear h hl hab
  by_cases h1 : m ≤ 1
  · go_enter Try.func15, Try.ntmps15
    go_wp2
    go_ret
    exact ⟨0, k, rfl, by omega, .inr ⟨rfl, h1⟩, HS.out, by omega, by omega, Touch.refl _ _⟩
  · by_cases h2 : m ≤ 200
    · go_enter Try.func15, Try.ntmps15
      go_wp2_with (refine HN.out.mono ?_; rintro e w' ⟨x, rfl, ⟨hx0, hx1⟩, hs, ht⟩)
      go_ret
      exact ⟨_, k + 1, rfl, Int.emod_nonneg _ (by omega), .inl (Int.emod_lt_of_pos _ (by omega)), hs, by omega, by omega, ht⟩
    · go_enter Try.func15, Try.ntmps15
      go_wp2_with fail
      refine HN.out.mono ?_
      rintro e w' ⟨x, rfl, ⟨hx0, hx1⟩, hs, ht⟩
      have HC := Lib.hid (HN2.out w' hs ht)
      have HT := Lib.hid ht
      clear hs ht
      go_wp2_with fail
      refine HC.out.mono ?_
      rintro e w2 ⟨y, rfl, ⟨hy0, hy1⟩, hs2, ht2⟩
      go_wp2
      go_ret
      exact ⟨_, k + 1 + 1, rfl, Int.emod_nonneg _ (by omega), .inl (Int.emod_lt_of_pos _ (by omega)), hs2, by omega, by omega, HT.out.trans ht2⟩

def RetSrc (a : Option Addr) (n c : Nat) (w : World) (e : Ending) (w' : World) : Prop :=
  e = .returned (.pointer (some ⟨w.heap.size, 0, none⟩)) ∧ Src w' w.heap.size a n c 0 ∧ Ext w w' ∧ w'.heap.size = w.heap.size + 1
set_option maxHeartbeats 400000 in
theorem src_from (a : Option Addr) (n c : Nat) (w : World) : Calls Try.prog 14 #[.slice a n c] w (RetSrc a n c w) := by
  go_enter Try.func14, Try.ntmps14
  go_wp2
  go_ret
  exact ⟨rfl, Src.new w a n c _, (by repeat (first | (with_reducible exact Ext.refl _) | (with_reducible refine Ext.drewN ?_ _) | (with_reducible refine Ext.drew ?_) | (with_reducible refine Ext.alloc ?_ _) | ((with_reducible refine Ext.setCell ?_ ?_ _); rotate_left; focus (first | (simp; done) | (simp; omega) | omega)))), by simp⟩
theorem bytes_old {w : World} {a : Option Addr} {n c : Nat} {l : List UInt8} (hl : Bytes w a n c l) : 0 < n → ∀ x, a = some x → x.block < w.heap.size := fun h0 x hx => by
  obtain ⟨b, off, ha, hc⟩ := Sl.cells hl h0
  rw [hx] at ha
  simp only [Option.some.injEq] at ha
  subst ha
  exact World.block_lt_of_cell? w _ (hc 0 h0)

end Go.Proofs.Ytccoopnoakhedaa

/- Walks: choices: a source and its bytes together. -/
namespace Go.Proofs.Ytccoopnoakhedaa
set_option maxRecDepth 100000
open Go.RowKit

theorem Touch.ext {g : Nat} {a w w' : World} (h : Touch g a w) (k : Ext w w') : Touch g a w' :=
  ⟨(Below.os k).trans h.os, (Below.tape k).trans h.tape, (Below.output k).trans h.output, Nat.le_trans h.size k.le, fun i hi hne => (Below.block k i (Nat.lt_of_lt_of_le hi h.size)).trans (h.block i hi hne)⟩
theorem Touch.below {g B : Nat} {a w w' : World} (h : Touch g a w) (k : Below B w w') (hB : a.heap.size ≤ B) : Touch g a w' :=
  ⟨(Below.os k).trans h.os, (Below.tape k).trans h.tape, (Below.output k).trans h.output, Nat.le_trans h.size k.size, fun i hi hne => (Below.block k i (Nat.lt_of_lt_of_le hi hB)).trans (h.block i hi hne)⟩
/-- block g holds a source over the bytes l, which lie ahead of it -/
structure SrcB (w : World) (g : Nat) (a : Option Addr) (n c : Nat) (l : List UInt8) (k : Int) : Prop where
  s : Src w g a n c k
  b : Bytes w a n c l
  lt : 0 < n → ∀ x, a = some x → x.block < g
  nn : n ≤ 4611686018427387904
theorem SrcB.g {w : World} {g : Nat} {a : Option Addr} {n c : Nat} {l : List UInt8} {k : Int} (h : SrcB w g a n c l k) : g < w.heap.size := World.block_lt_of_cell? w ⟨g, 0, none⟩ h.s.c0
theorem SrcB.below {w w' : World} {g B : Nat} {a : Option Addr} {n c : Nat} {l : List UInt8} {k : Int} (h : SrcB w g a n c l k) (hb : Below B w w') (hB : g < B) : SrcB w' g a n c l k := by
  refine ⟨h.s.below hb hB, ⟨Sl.len h.b, Sl.cap h.b, fun h0 => ?_⟩, h.lt, h.nn⟩
  obtain ⟨b1, off, ha, hc⟩ := Sl.cells h.b h0
  refine ⟨b1, off, ha, fun k hk => (hb.cell (p := ⟨b1, off + k, none⟩) ?_).trans (hc k hk)⟩
  have := h.lt h0 _ ha
  simp only at this ⊢
  omega
theorem SrcB.ext {w w' : World} {g : Nat} {a : Option Addr} {n c : Nat} {l : List UInt8} {k : Int} (h : SrcB w g a n c l k) (hx : Ext w w') : SrcB w' g a n c l k := h.below hx h.g
theorem SrcB.to {w w' : World} {g : Nat} {a : Option Addr} {n c : Nat} {l : List UInt8} {k k' : Int} (h : SrcB w g a n c l k) (ht : Touch g w w') (hs : Src w' g a n c k') : SrcB w' g a n c l k' :=
  ⟨hs, touch_bytes h.b ht (fun h0 x hx => by have := h.lt h0 x hx; omega), h.lt, h.nn⟩
/-- a number below m, chosen -/
def RetPk (g : Nat) (a : Option Addr) (n c : Nat) (l : List UInt8) (k m : Int) (w : World) (e : Ending) (w' : World) : Prop :=
  ∃ x k' : Int, e = .returned (.int .i64 x) ∧ 0 ≤ x ∧ (x < m ∨ (x = 0 ∧ m ≤ 1)) ∧ SrcB w' g a n c l k' ∧ k ≤ k' ∧ k' ≤ k + 2 ∧ Touch g w w'
theorem pick_b (g : Nat) (a : Option Addr) (n c : Nat) (l : List UInt8) (k m : Int) (w : World) (h : SrcB w g a n c l k) (hk : 0 ≤ k) (hk2 : k ≤ 999999999) (hm : m ≤ 4611686018427387904) :
    Calls Try.prog 15 #[.pointer (some ⟨g, 0, none⟩), .int .i64 m] w (RetPk g a n c l k m w) :=
  (src_pick g a n c l k m w h.s h.b (fun h0 x hx => by have := h.lt h0 x hx; omega) hk hk2 h.nn hm).mono fun _ _ ⟨x, k', h1, h2, h3, h4, h5, h6, h7⟩ => ⟨x, k', h1, h2, h3, h.to h7 h4, h5, h6, h7⟩
/-- yes or no, chosen -/
def RetOne (g : Nat) (a : Option Addr) (n c : Nat) (l : List UInt8) (k : Int) (w : World) (e : Ending) (w' : World) : Prop :=
  ∃ (x : Bool) (k' : Int), e = .returned (.bool x) ∧ SrcB w' g a n c l k' ∧ k ≤ k' ∧ k' ≤ k + 2 ∧ Touch g w w'
set_option maxHeartbeats 400000 in
theorem one_b (g : Nat) (a : Option Addr) (n c : Nat) (l : List UInt8) (k m : Int) (w : World) (h : SrcB w g a n c l k) (hk : 0 ≤ k) (hk2 : k ≤ 999999999) (hm : m ≤ 4611686018427387904) :
    Calls Try.prog 16 #[.pointer (some ⟨g, 0, none⟩), .int .i64 m] w (RetOne g a n c l k w) := by
  have HP := Lib.hid (pick_b g a n c l k m w h hk hk2 hm)
  clear h
  go_enter Try.func16, Try.ntmps16
  go_wp2_with (refine HP.out.mono ?_; rintro e w1 ⟨x, k1, rfl, hx0, hx1, hs, hk1, hk2, ht⟩)
  go_ret
  exact ⟨_, k1, rfl, hs, hk1, hk2, ht⟩
/-- a source of one's own -/
def RetFrom (a : Option Addr) (n c : Nat) (l : List UInt8) (w : World) (e : Ending) (w' : World) : Prop :=
  e = .returned (.pointer (some ⟨w.heap.size, 0, none⟩)) ∧ SrcB w' w.heap.size a n c l 0 ∧ Ext w w' ∧ w'.heap.size = w.heap.size + 1
theorem from_b (a : Option Addr) (n c : Nat) (l : List UInt8) (w : World) (h : Bytes w a n c l) (hn : n ≤ 4611686018427387904) : Calls Try.prog 14 #[.slice a n c] w (RetFrom a n c l w) :=
  (src_from a n c w).mono fun _ _ ⟨h1, h2, h3, h4⟩ => ⟨h1, ⟨h2, h.ext h3, bytes_old h, hn⟩, h3, h4⟩
end Go.Proofs.Ytccoopnoakhedaa
