/- Plain, walks: words of a pair of sums. -/
import Derived.Test.YtaiieodllhoelaaKinds
import Derived.Test.YtaiieodllhoelaaLInts
import Derived.Test.YtaiieodllhoelaaLdS
import Derived.Test.YtaiieodllhoelaaRankM
import Derived.Test.YtaiieodllhoelaaCount
namespace Go.Proofs.Ytaiieodllhoelaa
set_option maxRecDepth 100000
open Go.RowKit

/-- sums of products -/
def dt (x y : List Int) (k : Nat) : Int := S k fun i => gi x i * gi y i
theorem dt_bd {x y : List Int} (hx : Small x) (hy : Small y) (k : Nat) (h1 : k ≤ x.length) (h2 : k ≤ y.length) : 0 ≤ dt x y k ∧ dt x y k ≤ 1296 * k := by
  have := S_bd (n := k) (f := fun i => gi x i * gi y i) (c := 1296) fun i hi => mul_bd (a := 36) (b := 36) (hx.at i (by omega)).1 (hx.at i (by omega)).2 (hy.at i (by omega)).1 (hy.at i (by omega)).2
  exact this
theorem dt_comm (x y : List Int) (k : Nat) : dt x y k = dt y x k := S_congr fun _ _ => Int.mul_comm _ _
/-- digits are a word of a pair -/
def ofP (m : Nat) (one two d : List Int) (n : Nat) : Bool := hit (dt d one n) m && hit (dt d two n) m
set_option maxHeartbeats 2000000 in
theorem impl_ofPair (m n : Nat) (a1 a2 a3 : Option Addr) (c1 c2 c3 : Nat) (one two d : List Int) (w : World) (h1 : Ints w a1 n c1 one) (h2 : Ints w a2 n c2 two) (h3 : Ints w a3 n c3 d) (hn : n ≤ 20) (hm : 1 ≤ m) (hm2 : m ≤ 36) (s1 : Small one) (s2 : Small two) (s3 : Small d) :
    Calls Try.prog 105 #[.int .i64 m, .slice a1 n c1, .slice a2 n c2, .slice a3 n c3] w (Qt (.bool (ofP m one two d n)) w) := by
  have H1 := Lib.hid h1
  have H2 := Lib.hid h2
  have H3 := Lib.hid h3
  have HB1 := Lib.hid (fun k (hk : k ≤ n) => dt_bd s3 s1 k (by rw [h3.len]; exact hk) (by rw [h1.len]; exact hk))
  have HB2 := Lib.hid (fun k (hk : k ≤ n) => dt_bd s3 s2 k (by rw [h3.len]; exact hk) (by rw [h2.len]; exact hk))
  have HE1 := Lib.hid (fun k (hk : k < n) => And.intro (s3.at k (by rw [h3.len]; exact hk)) (s1.at k (by rw [h1.len]; exact hk)))
  have HE2 := Lib.hid (fun k (hk : k < n) => s2.at k (by rw [h2.len]; exact hk))
  clear h1 h2 h3 s1 s2 s3
  go_enter Try.func105, Try.ntmps105
  go_wp2_with fail
  go_loopw [9, 10, 11, 12, 15] (fun s9 s10 _ _ s15 wr => ∃ (k : Nat) (x y : Int), k ≤ n ∧ s15 = .int .i64 k ∧ s9 = .int .i64 x ∧ s10 = .int .i64 y ∧ Hid (x = dt d one k) ∧ Hid (y = dt d two k) ∧ ∃ q, wr = w.drewN q) (fun _ _ _ _ s15 _ => n - (intOf s15).toNat)
  case atStart => exact ⟨0, 0, 0, Nat.zero_le _, rfl, rfl, rfl, rfl, rfl, 0, rfl⟩
  case round =>
    obtain ⟨k, x, y, hk, rfl, rfl, rfl, HX, HY, q, rfl⟩ := hrel
    have hx := HB1.out k hk
    have hy := HB2.out k hk
    rw [← HX.out] at hx
    rw [← HY.out] at hy
    by_cases hlt : k < n
    · obtain ⟨b1, o1, i1, e1⟩ := H1.out.at 25 2 und_int64s cell_int64 k hlt .i64
      obtain ⟨b2, o2, i2, e2⟩ := H2.out.at 25 2 und_int64s cell_int64 k hlt .i64
      obtain ⟨b3, o3, i3, e3⟩ := H3.out.at 25 2 und_int64s cell_int64 k hlt .i64
      have hd := (HE1.out k hlt).1
      have ho := (HE1.out k hlt).2
      have ht := HE2.out k hlt
      have HNx := Lib.hid (show dt d one (k + 1) = x + d.getD k 0 * one.getD k 0 by rw [HX.out]; rfl)
      have HNy := Lib.hid (show dt d two (k + 1) = y + d.getD k 0 * two.getD k 0 by rw [HY.out]; rfl)
      generalize one.getD k 0 = u at *
      generalize two.getD k 0 = v at *
      generalize d.getD k 0 = z at *
      have hzu := mul_bd hd.1 hd.2 ho.1 ho.2
      have hzv := mul_bd hd.1 hd.2 ht.1 ht.2
      go_wp2
      go_quiet (fail)
      go_wp2
      exact ⟨⟨k + 1, _, _, by omega, by go_num, rfl, rfl, HNx.out.symm, HNy.out.symm, (by first | exact ⟨_, rfl⟩ | exact ⟨_, World.drewN_drewN _ _ _⟩)⟩, by simp [intOf]; omega⟩
    · obtain rfl : n = k := by omega
      have HR := Lib.hid (show ofP m one two d n = (hit x m && hit y m) by rw [ofP, HX.out, HY.out])
      have hhx := hit_tmod x m
      have hhy := hit_tmod y m
      have ex : x.tmod m = x % m := Int.tmod_eq_emod_of_nonneg hx.1
      have ey : y.tmod m = y % m := Int.tmod_eq_emod_of_nonneg hy.1
      rw [ex] at hhx
      rw [ey] at hhy
      clear ex ey HX HY
      cases hbx : hit x m
      · rw [hbx] at hhx HR
        clear hbx hhy
        go_wp2_with fail
        go_ret
        exact ⟨rb HR.out.symm, _, rfl⟩
      · rw [hbx] at hhx HR
        clear hbx
        go_wp2_with fail
        go_ret
        exact ⟨rb (by rw [HR.out, ← hhy]; rfl), _, rfl⟩
end Go.Proofs.Ytaiieodllhoelaa

/- Plain: which words a pair of weightings checks, and the first corrected word. -/
namespace Go.Proofs.Ytaiieodllhoelaa
set_option maxRecDepth 100000
open Go.RowKit

theorem wt_runK {X : Wt} (h : validB X = true) {ds : List Int} (hd : ∀ d ∈ ds, 0 ≤ d ∧ d < X.base) (hl : ds.length ≤ X.weights.length) : ∀ k, k ≤ ds.length → runS (wtCh X) 0 0 (ds.take k) = dt ds X.weights k % X.modulus := by
  have hA := validB_addOk h
  have hm := hA.m1
  intro k
  induction k with
  | zero => intro _; show (0 : Int) = 0 % X.modulus; simp
  | succ k ih =>
    intro hk
    rw [runS_step _ (by omega), ih (by omega), Int.zero_add]
    have hg := hd _ (gi_mem (l := ds) (k := k) (by omega))
    have h0 := Int.emod_nonneg (dt ds X.weights k) (show X.modulus ≠ 0 by omega)
    have h1 := Int.emod_lt_of_pos (dt ds X.weights k) (show 0 < X.modulus by omega)
    have hs : dt ds X.weights (k + 1) = dt ds X.weights k + gi ds k * gi X.weights k := rfl
    rw [hs]
    generalize hx : dt ds X.weights k % X.modulus = x at *
    have hz : dt ds X.weights k % X.modulus = x := hx
    generalize gi ds k = d at *
    obtain ⟨x, rfl⟩ := Int.eq_ofNat_of_zero_le h0
    obtain ⟨d, rfl⟩ := Int.eq_ofNat_of_zero_le hg.1
    have hn := addCh_next hA (p := k) (d := d) (x := x) (by rw [List.length_map]; omega) h1 hg.2
    have hgl : gl (X.weights.map (wgL X.base.toNat)) k = wgL X.base.toNat (gi X.weights k) := by
      rw [gl_get (by rw [List.length_map]; omega), List.getElem_map, ← gi_get]
    have hgi : gi (wgL X.base.toNat (gi X.weights k)) d = gi X.weights k * (d : Int) := by
      rw [gi_get (by rw [wgL_len]; omega)]; simp [wgL]
    have hw : nextS (wtCh X) ((k : Nat) : Int) (x : Int) (d : Int) = ((x : Int) + gi X.weights k * (d : Int)) % X.modulus := by
      unfold wtCh; rw [hn, hgl, hgi]
    rw [hw, ← hz, Int.emod_add_emod, Int.mul_comm]
theorem hit_of {v m : Int} : hit v m = true ↔ v % m = 0 := by unfold hit; exact beq_iff_eq
theorem pair_ofP {b : Int} {l1 l2 ds : List Int} {m n : Nat} (h : pairB b l1 l2 = true) (hm : b = (m : Int)) (hn : l1.length = n) (hd : ∀ d ∈ ds, 0 ≤ d ∧ d < b) (hl : ds.length = n) :
    runS (pairCh b l1 l2) 0 (pairCh b l1 l2).start ds = (pairCh b l1 l2).fin ↔ ofP m l1 l2 ds n = true := by
  have hf := pair_fit h
  have hc : pairCh b l1 l2 = joinCh (wtCh (pW b l1)) (wtCh (pW b l2)) := by unfold pairCh; rw [if_pos h]
  unfold pairB at h
  simp only [Bool.and_eq_true, decide_eq_true_eq] at h
  obtain ⟨⟨_, h2⟩, h3, h4⟩ := h
  have e1 := wt_runK h3 (ds := ds) hd (by show ds.length ≤ l1.length; omega) _ (Nat.le_refl _)
  have e2 := wt_runK h4 (ds := ds) hd (by show ds.length ≤ l2.length; omega) _ (Nat.le_refl _)
  rw [List.take_length, hl] at e1 e2
  have hx := hf.fin (ds := ds) hd (by rw [wt_lenP]; show ds.length = l1.length; omega)
  rw [hc, hx]
  have s1 : (wtCh (pW b l1)).start = 0 := rfl
  have s2 : (wtCh (pW b l2)).start = 0 := rfl
  have f1 : (wtCh (pW b l1)).fin = 0 := rfl
  have f2 : (wtCh (pW b l2)).fin = 0 := rfl
  rw [s1, s2, f1, f2, e1, e2]
  unfold ofP
  rw [Bool.and_eq_true, hit_of, hit_of, ← hm]
  exact Iff.rfl
theorem pair_len {b : Int} {l1 l2 : List Int} (h : pairB b l1 l2 = true) : (pairCh b l1 l2).places.length = l1.length := by
  have hc : pairCh b l1 l2 = joinCh (wtCh (pW b l1)) (wtCh (pW b l2)) := by unfold pairCh; rw [if_pos h]
  rw [hc]
  show ((List.range (wtCh (pW b l1)).places.length).map _).length = _
  rw [List.length_map, List.length_range, wt_lenP]; rfl
theorem pair_base {b : Int} {l1 l2 : List Int} (h : pairB b l1 l2 = true) : (pairCh b l1 l2).base = b := by
  have hc : pairCh b l1 l2 = joinCh (wtCh (pW b l1)) (wtCh (pW b l2)) := by unfold pairCh; rw [if_pos h]
  rw [hc]; rfl
/-- what is known of a pair -/
theorem pair_sizes {b : Int} {l1 l2 : List Int} (h : pairB b l1 l2 = true) : (b = 2 ∨ b = 3 ∨ b = 5) ∧ l1.length = l2.length ∧ 1 ≤ l1.length ∧ l1.length ≤ 20 ∧ Small l1 ∧ Small l2 := by
  unfold pairB at h
  simp only [Bool.and_eq_true, decide_eq_true_eq] at h
  obtain ⟨⟨h1, h2⟩, h3, h4⟩ := h
  have hA := validB_addOk h3
  have g1 := hA.n1
  have g2 := hA.n20
  rw [List.length_map] at g1 g2
  exact ⟨pbB_t h1, h2, g1, g2, validB_small h3, validB_small h4⟩
theorem sym_dig_all : ∀ n : Fin 256, 0 ≤ dig (UInt8.ofNat n.val) → symU (dig (UInt8.ofNat n.val)) = UInt8.ofNat n.val := by decide +kernel
theorem sym_dig (c : UInt8) (h : 0 ≤ dig c) : symU (dig c) = c := by
  have h1 := sym_dig_all ⟨c.toNat, c.toNat_lt⟩
  simp only [UInt8.ofNat_toNat] at h1
  exact h1 h
theorem text_dig {s : ByteArray} {b : Int} {n : Nat} (h : wordB s.data.toList b n = true) : textOf (digC s) = s := by
  unfold wordB at h
  simp only [Bool.and_eq_true, List.all_eq_true, decide_eq_true_eq] at h
  refine bs_eqC ?_
  rw [text_data, digC, digs, List.map_map]
  conv => rhs; rw [← List.map_id s.data.toList]
  refine List.map_congr_left fun c hc => ?_
  exact sym_dig c (inB_t.1 (h.1 c hc)).1
where
  bs_eqC {a b : ByteArray} (h : a.data.toList = b.data.toList) : a = b := by cases a; cases b; congr; exact Array.toList_inj.1 h
theorem set_textC {xs : List Int} {pl : Nat} {d : Int} (h : pl < xs.length) : (textOf xs).extract 0 pl ++ textOf [d] ++ (textOf xs).extract (pl + 1) (textOf xs).size = textOf (xs.set pl d) := by
  rw [text_cut, text_cut, ← text_app, ← text_app, textOf_size, List.drop_zero, List.take_length]
  congr 1
  rw [List.set_eq_take_append_cons_drop, if_pos h]
  simp
theorem digs_set {b : Int} {ds : List Int} (h : ∀ d ∈ ds, 0 ≤ d ∧ d < b) (i : Nat) {e : Int} (h0 : 0 ≤ e) (h1 : e < b) : ∀ d ∈ ds.set i e, 0 ≤ d ∧ d < b := fun d hd => by
  rcases List.mem_or_eq_of_mem_set hd with h2 | rfl
  · exact h d h2
  · exact ⟨h0, h1⟩
/-- the words of a pair, of digits -/
theorem pair_chk {b : Int} {l1 l2 ds : List Int} {m n : Nat} (h : pairB b l1 l2 = true) (hm : b = (m : Int)) (hn : l1.length = n) (hd : ∀ d ∈ ds, 0 ≤ d ∧ d < b) (hl : ds.length = n) :
    chkB (pairCh b l1 l2) (textOf ds) = ofP m l1 l2 ds n := by
  have hval := (pair_facts h).1
  have hok := validCh_ok hval
  rw [chkB_text hok hval (fun d hx => by rw [pair_base h]; exact hd d hx) (by rw [pair_len h]; omega), Bool.eq_iff_iff, decide_eq_true_eq]
  exact pair_ofP h hm hn hd hl
/-- the word is one that the pair can speak of -/
def coW (b : Int) (s : ByteArray) (n : Nat) : Bool := wordB s.data.toList b 20 && decide (s.size = n)
theorem coW_t {b : Int} {s : ByteArray} {n : Nat} (h : coW b s n = true) : (∀ d ∈ digC s, 0 ≤ d ∧ d < b) ∧ s.size = n ∧ (digC s).length = n ∧ wordB s.data.toList b 20 = true := by
  unfold coW at h
  simp only [Bool.and_eq_true, decide_eq_true_eq] at h
  have hw := h.1
  unfold wordB at hw
  simp only [Bool.and_eq_true, List.all_eq_true, decide_eq_true_eq] at hw
  refine ⟨fun d hd => ?_, h.2, by rw [digC_len]; exact h.2, h.1⟩
  obtain ⟨x, hx, rfl⟩ := List.mem_map.1 hd
  have := inB_t.1 (hw.1 x hx)
  omega
theorem pair_runOk {b : Int} {l1 l2 : List Int} (h : pairB b l1 l2 = true) (s : ByteArray) : runOk (pairCh b l1 l2) s = coW b s l1.length := by
  have hval := (pair_facts h).1
  unfold runOk wordCh coW
  rw [hval, pair_base h, pair_len h]; rfl
theorem pair_chkW {b : Int} {l1 l2 : List Int} {m n : Nat} {s : ByteArray} (h : pairB b l1 l2 = true) (hm : b = (m : Int)) (hn : l1.length = n) (hw : coW b s n = true) :
    chkB (pairCh b l1 l2) s = ofP m l1 l2 (digC s) n := by
  obtain ⟨h1, _, h3, h4⟩ := coW_t hw
  have := pair_chk h hm hn h1 h3
  rwa [text_dig h4] at this
/-- the first place and symbol that make a word of the pair -/
def HitC (m n : Nat) (l1 l2 ds : List Int) (i d : Nat) : Bool := ofP m l1 l2 (ds.set i (d : Int)) n
/-- no place below i, and at i no symbol below d, makes a word of the pair -/
def NoneC (m n : Nat) (l1 l2 ds : List Int) (i d : Nat) : Prop := (∀ i' d', i' < i → d' < m → HitC m n l1 l2 ds i' d' = false) ∧ ∀ d', d' < d → HitC m n l1 l2 ds i d' = false
theorem NoneC.zero {m n : Nat} {l1 l2 ds : List Int} : NoneC m n l1 l2 ds 0 0 := ⟨fun _ _ h => by omega, fun _ h => by omega⟩
theorem NoneC.step {m n : Nat} {l1 l2 ds : List Int} {i d : Nat} (h : NoneC m n l1 l2 ds i d) (hh : HitC m n l1 l2 ds i d = false) : NoneC m n l1 l2 ds i (d + 1) :=
  ⟨h.1, fun d' hd => by
    by_cases he : d' < d
    · exact h.2 d' he
    · obtain rfl : d' = d := by omega
      exact hh⟩
theorem NoneC.next {m n : Nat} {l1 l2 ds : List Int} {i : Nat} (h : NoneC m n l1 l2 ds i m) : NoneC m n l1 l2 ds (i + 1) 0 :=
  ⟨fun i' d' hi hd => by
    by_cases he : i' < i
    · exact h.1 i' d' he hd
    · obtain rfl : i' = i := by omega
      exact h.2 d' hd, fun _ h => by omega⟩
/-- what the correction returns -/
def IsCo (ok : Prop) (m n : Nat) (l1 l2 ds : List Int) (r : ByteArray × Int × Bool) : Prop :=
  (ok ∧ ∃ i d, i < n ∧ d < m ∧ NoneC m n l1 l2 ds i d ∧ HitC m n l1 l2 ds i d = true ∧ r = (textOf (ds.set i (d : Int)), (i : Int), true)) ∨ ((ok → NoneC m n l1 l2 ds n 0) ∧ r = (.empty, 0, false))
theorem IsCo.uniq {ok : Prop} {m n : Nat} {l1 l2 ds : List Int} {r r' : ByteArray × Int × Bool} (h : IsCo ok m n l1 l2 ds r) (h' : IsCo ok m n l1 l2 ds r') : r = r' := by
  rcases h with ⟨ho, i, d, hi, hd, hn, hh, rfl⟩ | ⟨hn, rfl⟩ <;> rcases h' with ⟨ho', i', d', hi', hd', hn', hh', rfl⟩ | ⟨hn', rfl⟩
  · have h1 : ¬ i < i' := fun hx => by have := hn'.1 i d hx hd; rw [hh] at this; cases this
    have h2 : ¬ i' < i := fun hx => by have := hn.1 i' d' hx hd'; rw [hh'] at this; cases this
    obtain rfl : i = i' := by omega
    have h3 : ¬ d < d' := fun hx => by have := hn'.2 d hx; rw [hh] at this; cases this
    have h4 : ¬ d' < d := fun hx => by have := hn.2 d' hx; rw [hh'] at this; cases this
    obtain rfl : d = d' := by omega
    rfl
  · exact absurd hh (by rw [(hn' ho).1 i d hi hd]; decide)
  · exact absurd hh' (by rw [(hn ho').1 i' d' hi' hd']; decide)
  · rfl
/-- the pair corrects the word -/
def CoOk (b : Int) (l1 l2 : List Int) (s : ByteArray) : Prop := pairB b l1 l2 = true ∧ coW b s l1.length = true ∧ ofP b.toNat l1 l2 (digC s) l1.length = false ∧ (leastD (PairD b l1 l2)).2 = true ∧ 3 ≤ (leastD (PairD b l1 l2)).1
def IsCor (b : Int) (l1 l2 : List Int) (s : ByteArray) (r : ByteArray × Int × Bool) : Prop := IsCo (CoOk b l1 l2 s) b.toNat l1.length l1 l2 (digC s) r
open Classical in
noncomputable def corV (b : Int) (l1 l2 : List Int) (s : ByteArray) : ByteArray × Int × Bool := if h : ∃ r, IsCor b l1 l2 s r then Classical.choose h else (.empty, 0, false)
theorem IsCor.eq {b : Int} {l1 l2 : List Int} {s : ByteArray} {r : ByteArray × Int × Bool} (h : IsCor b l1 l2 s r) : corV b l1 l2 s = r := by
  have hx : ∃ r, IsCor b l1 l2 s r := ⟨r, h⟩
  unfold corV
  rw [dif_pos hx]
  exact (Classical.choose_spec hx).uniq h
theorem IsCor.no {b : Int} {l1 l2 : List Int} {s : ByteArray} (h : ¬ CoOk b l1 l2 s) : corV b l1 l2 s = (.empty, 0, false) := IsCor.eq (.inr ⟨fun h' => absurd h' h, rfl⟩)
end Go.Proofs.Ytaiieodllhoelaa

/- Walks: the corrected word of a pair, in the program and in the reference. -/
namespace Go.Proofs.Ytaiieodllhoelaa
set_option maxRecDepth 100000
open Go.RowKit

theorem leastD_true {P : Nat → Prop} (h : (leastD P).2 = true) : ∃ d : Nat, P d ∧ (leastD P).1 = (d : Int) ∧ ∀ d', P d' → d ≤ d' := by
  unfold leastD at h ⊢
  split at h
  · rename_i hx
    rw [dif_pos hx]
    have hc := Classical.choose_spec hx
    rcases hc with ⟨_, d, h1, h2, h3⟩ | ⟨h1, _⟩
    · exact ⟨d, h1, h2, h3⟩
    · rw [h1] at h; cases h
  · cases h
theorem ownC_some {w : World} {B : Nat} {E : TypeId} {a : Option Addr} {n c : Nat} {vs : List Value} (h : Own w B E a n c vs) (hn : 0 < n) : ∃ g, a = some ⟨g, 0, none⟩ := by
  rcases h.2 with h2 | ⟨g, cap, cur, hv, _⟩
  · omega
  · simp only [Value.slice.injEq] at hv; exact ⟨g, hv.1⟩
theorem set_same (l : List Int) {i : Nat} (h : i < l.length) : l.set i (gi l i) = l := by
  rw [gi_get h]; exact List.set_getElem_self h
theorem small_of {ds : List Int} {m : Nat} (hm : m ≤ 36) (h : ∀ e ∈ ds, 0 ≤ e ∧ e < (m : Int)) : Small ds := fun e he => by have := h e he; omega
set_option maxHeartbeats 4000000 in
theorem impl_Cor (b : Int) (a : Option Addr) (n c : Nat) (l1 : List Int) (a2 : Option Addr) (n2 c2 : Nat) (l2 : List Int) (s : ByteArray) (w : World) (h1 : Ints w a n c l1) (h2 : Ints w a2 n2 c2 l2) (hs : s.size ≤ 1048576) :
    Calls Try.prog 46 #[.int .i64 b, .slice a n c, .slice a2 n2 c2, .string s] w (Ret3 (.string (corV b l1 l2 s).1) (.int .i64 (corV b l1 l2 s).2.1) (.bool (corV b l1 l2 s).2.2) w) := by
  have HP := Lib.hid (fun W (h : Ext w W) => impl_PDk b a n c l1 a2 n2 c2 l2 W (h1.ext h) (h2.ext h))
  have HD := Lib.hid (fun W => impl_DigitsOf s b W (by omega))
  have HI1 := Lib.hid h1
  have HI2 := Lib.hid h2
  have HN1 := Lib.hid h1.len
  have HN2 := Lib.hid h2.len
  have HDl := Lib.hid (digC_len s)
  have HTr := Lib.hid (fun h => leastD_true (P := PairD b l1 l2) h)
  have HNo := Lib.hid (fun h => IsCor.no (b := b) (l1 := l1) (l2 := l2) (s := s) h)
  have HOk := Lib.hid (show ∀ x, x = CoOk b l1 l2 s → x = (pairB b l1 l2 = true ∧ coW b s l1.length = true ∧ ofP b.toNat l1 l2 (digC s) l1.length = false ∧ (leastD (PairD b l1 l2)).2 = true ∧ 3 ≤ (leastD (PairD b l1 l2)).1) from fun x hx => hx)
  clear h1 h2
  generalize hv : (leastD (PairD b l1 l2)).1 = v at HP HOk HTr
  generalize hf : (leastD (PairD b l1 l2)).2 = f at HP HOk HTr
  clear hv hf
  cases f
  · have HR := Lib.hid (HNo.out (fun h => by rw [HOk.out _ rfl] at h; exact absurd h.2.2.2.1 (by decide)))
    rw [HR.out]
    go_enter Try.func46, Try.ntmps46
    go_wp2_with (first | (go_at_call 44; (with_reducible refine (HP.out _ (by repeat (first | (with_reducible exact Ext.refl _) | (with_reducible refine Ext.drewN ?_ _) | (with_reducible refine Ext.drew ?_) | (with_reducible refine Ext.alloc ?_ _) | ((with_reducible refine Ext.setCell ?_ ?_ _); rotate_left; focus (first | (simp; done) | (simp; omega) | omega)) | assumption | (with_reducible refine Ext.trans ?_ (by assumption))))).mono ?_); rintro e w1 ⟨rfl, hx1⟩) | (go_at_call 104; (with_reducible refine (HD.out _).mono ?_); rintro e w2 ⟨a3, n3, c3, rfl, hx2, _⟩))
    refine bodyPost_ret (v := .tuple #[.string .empty, .int .i64 0, .bool false]) (by simp [results, Try.results46, go_sem] <;> rfl) rfl ⟨rfl, hx1.trans hx2⟩
  obtain ⟨d0, hd0, hv0, _⟩ := HTr.out rfl
  have hpb := hd0.1
  obtain ⟨hb3, hll, hn1, hn20, hsm1, hsm2⟩ := pair_sizes hpb
  clear hd0
  rw [HN1.out] at hn1 hn20 hll
  rw [HN2.out] at hll
  subst hll
  obtain ⟨m, rfl⟩ := Int.eq_ofNat_of_zero_le (show 0 ≤ b by omega)
  have hm2 : 2 ≤ m ∧ m ≤ 5 := by omega
  have HPB := Lib.hid hpb
  have HSm1 := Lib.hid hsm1
  have HSm2 := Lib.hid hsm2
  clear hpb hb3 hsm1 hsm2 hv0 HTr
  by_cases hv3 : v < 3
  · have HR := Lib.hid (HNo.out (fun h => by rw [HOk.out _ rfl] at h; have := h.2.2.2.2; omega))
    rw [HR.out]
    go_enter Try.func46, Try.ntmps46
    go_wp2_with (first | (go_at_call 44; (with_reducible refine (HP.out _ (by repeat (first | (with_reducible exact Ext.refl _) | (with_reducible refine Ext.drewN ?_ _) | (with_reducible refine Ext.drew ?_) | (with_reducible refine Ext.alloc ?_ _) | ((with_reducible refine Ext.setCell ?_ ?_ _); rotate_left; focus (first | (simp; done) | (simp; omega) | omega)) | assumption | (with_reducible refine Ext.trans ?_ (by assumption))))).mono ?_); rintro e w1 ⟨rfl, hx1⟩) | (go_at_call 104; (with_reducible refine (HD.out _).mono ?_); rintro e w2 ⟨a3, n3, c3, rfl, hx2, _⟩))
    refine bodyPost_ret (v := .tuple #[.string .empty, .int .i64 0, .bool false]) (by simp [results, Try.results46, go_sem] <;> rfl) rfl ⟨rfl, hx1.trans hx2⟩
  cases hwd : wordB s.data.toList (m : Int) 20
  · rw [hwd] at HD
    have HR := Lib.hid (HNo.out (fun h => by rw [HOk.out _ rfl] at h; have h2 := h.2.1; unfold coW at h2; rw [hwd] at h2; cases h2))
    rw [HR.out]
    clear hwd
    go_enter Try.func46, Try.ntmps46
    go_wp2_with (first | (go_at_call 44; (with_reducible refine (HP.out _ (by repeat (first | (with_reducible exact Ext.refl _) | (with_reducible refine Ext.drewN ?_ _) | (with_reducible refine Ext.drew ?_) | (with_reducible refine Ext.alloc ?_ _) | ((with_reducible refine Ext.setCell ?_ ?_ _); rotate_left; focus (first | (simp; done) | (simp; omega) | omega)) | assumption | (with_reducible refine Ext.trans ?_ (by assumption))))).mono ?_); rintro e w1 ⟨rfl, hx1⟩) | (go_at_call 104; (with_reducible refine (HD.out _).mono ?_); rintro e w2 ⟨a3, n3, c3, rfl, hx2, _⟩))
    refine bodyPost_ret (v := .tuple #[.string .empty, .int .i64 0, .bool false]) (by simp [results, Try.results46, go_sem] <;> rfl) rfl ⟨rfl, hx1.trans hx2⟩
  rw [hwd] at HD
  by_cases hsz : s.size = n
  rotate_left
  · have HR := Lib.hid (HNo.out (fun h => by rw [HOk.out _ rfl] at h; have h2 := h.2.1; unfold coW at h2; rw [HN1.out, decide_eq_false hsz, Bool.and_false] at h2; cases h2))
    rw [HR.out]
    clear hwd
    go_enter Try.func46, Try.ntmps46
    go_wp2_with (first | (go_at_call 44; (with_reducible refine (HP.out _ (by repeat (first | (with_reducible exact Ext.refl _) | (with_reducible refine Ext.drewN ?_ _) | (with_reducible refine Ext.drew ?_) | (with_reducible refine Ext.alloc ?_ _) | ((with_reducible refine Ext.setCell ?_ ?_ _); rotate_left; focus (first | (simp; done) | (simp; omega) | omega)) | assumption | (with_reducible refine Ext.trans ?_ (by assumption))))).mono ?_); rintro e w1 ⟨rfl, hx1⟩) | (go_at_call 104; (with_reducible refine (HD.out _).mono ?_); rintro e w2 ⟨a3, n3, c3, rfl, hx2, ho2⟩; have hl2 := (ho2 rfl).len; rw [I_len] at hl2; have hl3 : n3 = s.size := hl2.symm.trans HDl.out; clear ho2 hl2; subst hl3; have hne : ((s.size : Int) != (n : Int)) = true := by simp; omega))
    refine bodyPost_ret (v := .tuple #[.string .empty, .int .i64 0, .bool false]) (by simp [results, Try.results46, go_sem] <;> rfl) rfl ⟨rfl, hx1.trans hx2⟩
  have hw : coW (m : Int) s n = true := by unfold coW; rw [hwd, decide_eq_true hsz]; rfl
  obtain ⟨hdg, _, hdl, _⟩ := coW_t hw
  have HW := Lib.hid hw
  have HDg := Lib.hid hdg
  have HdL := Lib.hid hdl
  obtain ⟨ds, hds⟩ : ∃ ds, ds = digC s := ⟨_, rfl⟩
  have HDs := Lib.hid hds
  rw [← hds] at HDg HdL
  have hdd : digs s.data.toList = ds := hds.symm
  rw [hdd] at HD
  clear hdd hds hdl hdg hw hwd hsz
  have HOf := Lib.hid (fun W a3 c3 xs (h : Ext w W) (h3 : Ints W a3 n c3 xs) (hx : ∀ e ∈ xs, 0 ≤ e ∧ e < (m : Int)) => impl_ofPair m n a a2 a3 c c2 c3 l1 l2 xs W (HI1.out.ext h) (HI2.out.ext h) h3 (by omega) (by omega) (by omega) HSm1.out HSm2.out (small_of (by omega) hx))
  cases hof : ofP m l1 l2 ds n
  rotate_left
  · have HR := Lib.hid (HNo.out (fun h => by rw [HOk.out _ rfl] at h; have h2 := h.2.2.1; rw [HN1.out, ← HDs.out, Int.toNat_natCast, hof] at h2; cases h2))
    have HOt := Lib.hid hof
    rw [HR.out]
    clear hof
    go_enter Try.func46, Try.ntmps46
    go_wp2_with (first | (go_at_call 44; (with_reducible refine (HP.out _ (by repeat (first | (with_reducible exact Ext.refl _) | (with_reducible refine Ext.drewN ?_ _) | (with_reducible refine Ext.drew ?_) | (with_reducible refine Ext.alloc ?_ _) | ((with_reducible refine Ext.setCell ?_ ?_ _); rotate_left; focus (first | (simp; done) | (simp; omega) | omega)) | assumption | (with_reducible refine Ext.trans ?_ (by assumption))))).mono ?_); rintro e w1 ⟨rfl, hx1⟩) | (go_at_call 104; (with_reducible refine (HD.out _).mono ?_); rintro e w2 ⟨a3, n3, c3, rfl, hx2, ho2⟩; have hl2 := (ho2 rfl).len; rw [I_len, HdL.out] at hl2; subst hl2; have HO := Lib.hid (ho2 rfl); clear ho2) | (go_at_call 105; (with_reducible refine (HOf.out _ a3 c3 ds (hx1.trans hx2) HO.out.ints HDg.out).mono ?_); rintro e w3 ⟨rfl, k3, rfl⟩; rw [HOt.out]))
    refine bodyPost_ret (v := .tuple #[.string .empty, .int .i64 0, .bool false]) (by simp [results, Try.results46, go_sem] <;> rfl) rfl ⟨rfl, (hx1.trans hx2).drewN _⟩
  have HOt := Lib.hid hof
  have HC := Lib.hid (show CoOk (m : Int) l1 l2 s by
    rw [HOk.out _ rfl, HN1.out, Int.toNat_natCast, ← HDs.out]
    exact ⟨HPB.out, HW.out, hof, rfl, by omega⟩)
  have HEq := Lib.hid (fun r (h : IsCo (CoOk (m : Int) l1 l2 s) m n l1 l2 ds r) => show corV (m : Int) l1 l2 s = r from IsCor.eq (by unfold IsCor; rw [HN1.out, Int.toNat_natCast, ← HDs.out]; exact h))
  clear hof
  go_enter Try.func46, Try.ntmps46
  go_wp2_with (first | (go_at_call 44; (with_reducible refine (HP.out _ (by repeat (first | (with_reducible exact Ext.refl _) | (with_reducible refine Ext.drewN ?_ _) | (with_reducible refine Ext.drew ?_) | (with_reducible refine Ext.alloc ?_ _) | ((with_reducible refine Ext.setCell ?_ ?_ _); rotate_left; focus (first | (simp; done) | (simp; omega) | omega)) | assumption | (with_reducible refine Ext.trans ?_ (by assumption))))).mono ?_); rintro e w1 ⟨rfl, hx1⟩) | (go_at_call 104; (with_reducible refine (HD.out _).mono ?_); rintro e w2 ⟨a3, n3, c3, rfl, hx2, ho2⟩; have hl2 := (ho2 rfl).len; rw [I_len, HdL.out] at hl2; subst hl2; have HO := Lib.hid (ho2 rfl); clear ho2) | (go_at_call 105; (with_reducible refine (HOf.out _ a3 c3 ds (hx1.trans hx2) HO.out.ints HDg.out).mono ?_); rintro e w3 ⟨rfl, k3, rfl⟩; rw [HOt.out]))
  obtain ⟨g, rfl⟩ := ownC_some HO.out (by omega)
  have HO3 := Lib.hid ((HO.out.mono (hx1.le)).ext ((Ext.refl w2).drewN k3))
  have hx3 : Ext w (w2.drewN k3) := (hx1.trans hx2).drewN _
  generalize w2.drewN k3 = w3 at HO3 hx3 ⊢
  clear HO hx1 hx2 HP HD
  go_loopw [57] (fun v57 wr => ∃ i : Nat, i ≤ n ∧ v57 = .int .i64 i ∧ Hid (Own wr w.heap.size 2 (some ⟨g, 0, none⟩) n c3 (I ds)) ∧ Hid (NoneC m n l1 l2 ds i 0) ∧ Ext w wr) (fun v57 _ => n - (intOf v57).toNat)
  case atStart => exact ⟨0, Nat.zero_le _, rfl, HO3.out, NoneC.zero, hx3⟩
  case round =>
    clear HO3 hx3
    obtain ⟨i, hi, rfl, HO, HNn, hxr⟩ := hrel
    by_cases hlt : i < n
    · have hgw : w.heap.size ≤ g := HO.out.lt.1
      obtain ⟨e1, e2, e3⟩ := own_oneJ HO.out (P := Try.prog) 25 und_int64s cell_int64 i hlt (x := (i : Int)) rfl
      have hrr : Ext wr wr := Ext.refl _
      have hidl : i < ds.length := by rw [HdL.out]; exact hlt
      obtain ⟨x0, hx0⟩ : ∃ x, x = gi ds i := ⟨_, rfl⟩
      rw [← hx0] at e2
      have HX0 := Lib.hid hx0
      clear hx0
      go_wp2
      have HOi := Lib.hid (show Own wr w.heap.size 2 (some ⟨g, 0, none⟩) n c3 (I (ds.set i x0)) from by rw [HX0.out, set_same ds hidl]; exact HO.out)
      clear HO
      go_loopw [63] (fun v63 wr => ∃ (d : Nat) (x : Int), d ≤ m ∧ v63 = .int .i64 d ∧ Hid (Own wr w.heap.size 2 (some ⟨g, 0, none⟩) n c3 (I (ds.set i x))) ∧ Hid (NoneC m n l1 l2 ds i d) ∧ Ext w wr) (fun v63 _ => m - (intOf v63).toNat)
      case atStart => exact ⟨0, x0, Nat.zero_le _, rfl, HOi.out, HNn.out, hxr⟩
      case round =>
        clear HOi HNn e1 e2 e3 hrr hxr
        obtain ⟨d, x, hd, rfl, HO, HNn, hxr⟩ := hrel
        have hsl : (ds.set i x).length = n := by rw [List.length_set]; exact HdL.out
        obtain ⟨e1, e2, e3⟩ := own_oneJ HO.out (P := Try.prog) 25 und_int64s cell_int64 i hlt (x := (i : Int)) rfl
        have hrr : Ext wr wr := Ext.refl _
        have hgl := HO.out.lt.2
        by_cases hltd : d < m
        · have HDn := Lib.hid (digs_set HDg.out i (e := (d : Int)) (by omega) (by omega))
          have HOn := Lib.hid (show Own (wr.setCell ⟨g, i, none⟩ (.int .i64 d)) w.heap.size 2 (some ⟨g, 0, none⟩) n c3 (I (ds.set i (d : Int))) from by
            have h := HO.out.set i (.int .i64 d)
            rw [I_set, List.set_set] at h
            exact h)
          have hxs : Ext w (wr.setCell ⟨g, i, none⟩ (.int .i64 d)) := Ext.setCell hxr hgw _
          have HOf2 := Lib.hid (HOf.out _ (some ⟨g, 0, none⟩) c3 (ds.set i (d : Int)) hxs HOn.out.ints HDn.out)
          cases hh : HitC m n l1 l2 ds i d
          · have hh2 : ofP m l1 l2 (ds.set i (d : Int)) n = false := hh
            rw [hh2] at HOf2
            have HNx := Lib.hid (HNn.out.step hh)
            clear hh hh2
            go_wp2_with (go_at_call 105; (with_reducible refine HOf2.out.mono ?_); rintro e w4 ⟨rfl, k4, rfl⟩)
            exact ⟨⟨d + 1, (d : Int), by omega, by go_num, HOn.out.ext ((Ext.refl _).drewN _), HNx.out, hxs.drewN _⟩, by simp [intOf]; omega⟩
          · have hh2 : ofP m l1 l2 (ds.set i (d : Int)) n = true := hh
            rw [hh2] at HOf2
            have HE := Lib.hid (HEq.out _ (.inl ⟨HC.out, i, d, hlt, hltd, HNn.out, hh, rfl⟩))
            have HWo := Lib.hid (fun W (h : Ints W (some ⟨g, 0, none⟩) n c3 (ds.set i (d : Int))) => impl_wordOf (some ⟨g, 0, none⟩) n c3 (ds.set i (d : Int)) W h (fun e he => by have := HDn.out e he; omega) (by omega))
            clear hh hh2
            go_wp2_with (first | (go_at_call 105; (with_reducible refine HOf2.out.mono ?_); rintro e w4 ⟨rfl, k4, rfl⟩) | (go_at_call 74; (with_reducible refine (HWo.out _ (HOn.out.ext ((Ext.refl _).drewN _)).ints).mono ?_); rintro e w5 ⟨rfl, hy5⟩))
            refine bodyPost_ret (v := .tuple #[.string (textOf (ds.set i (d : Int))), .int .i64 i, .bool true]) (by simp [results, Try.results46, go_sem] <;> rfl) rfl ⟨by rw [HE.out], (hxs.drewN _).trans hy5⟩
        · obtain rfl : d = m := by omega
          have HNx := Lib.hid HNn.out.next
          go_wp2
          refine ⟨⟨i + 1, by omega, by go_num, ?_, HNx.out, Ext.setCell hxr hgw _⟩, by simp [intOf]; omega⟩
          have h := HO.out.set i (.int .i64 x0)
          rw [I_set, List.set_set, HX0.out, set_same ds hidl] at h
          rw [HX0.out]
          exact h
    · obtain rfl : i = n := by omega
      have HE := Lib.hid (HEq.out _ (.inr ⟨fun _ => HNn.out, rfl⟩))
      go_wp2
      refine bodyPost_ret (v := .tuple #[.string .empty, .int .i64 0, .bool false]) (by simp [results, Try.results46, go_sem] <;> rfl) rfl ⟨by rw [HE.out], hxr⟩
end Go.Proofs.Ytaiieodllhoelaa

/- Walks: the corrected word of a pair, in the reference. -/
namespace Go.Proofs.Ytaiieodllhoelaa
set_option maxRecDepth 100000
open Go.RowKit

theorem sym_bytesC (d : Int) (w : World) : (convert 22 9 (.slice (some ⟨w.heap.size, 0, none⟩) 1 1)).run Try.prog (w.alloc (.cells #[.int .u8 (sym d)] 5)).drew = .ok (.string (textOf [d])) (w.alloc (.cells #[.int .u8 (sym d)] 5)).drew :=
  run_bytes_text (w.drew.alloc (.cells #[.int .u8 (sym d)] 5)) _ (some ⟨w.heap.size, 0, none⟩) 1 1 [sym d] (own_lit1 w.drew 5 (.int .u8 (sym d)))
theorem gi_setS2 (l : List Int) {i : Nat} (x : Int) (h : i < l.length) : gi (l.set i x) i = x := by
  unfold gi
  rw [List.getD_eq_getElem?_getD, List.getElem?_set_self h]; rfl
theorem ba_eqC {a b : ByteArray} (h : a.toList = b.toList) : a = b := by
  simp only [ByteArray.toList_eq] at h
  cases a; cases b; congr; exact Array.toList_inj.1 h
set_option maxHeartbeats 4000000 in
theorem spec_Cor (b : Int) (a : Option Addr) (n c : Nat) (l1 : List Int) (a2 : Option Addr) (n2 c2 : Nat) (l2 : List Int) (s : ByteArray) (w : World) (h1 : Ints w a n c l1) (h2 : Ints w a2 n2 c2 l2) (hs : s.size ≤ 1048576) :
    Calls Try.prog 45 #[.int .i64 b, .slice a n c, .slice a2 n2 c2, .string s] w (Ret3 (.string (corV b l1 l2 s).1) (.int .i64 (corV b l1 l2 s).2.1) (.bool (corV b l1 l2 s).2.2) w) := by
  have HP := Lib.hid (fun W (h : Ext w W) => spec_PairChain b a n c l1 a2 n2 c2 l2 W (h1.ext h) (h2.ext h))
  have HN1 := Lib.hid h1.len
  have HN2 := Lib.hid h2.len
  have HDl := Lib.hid (digC_len s)
  have HTr := Lib.hid (fun h => leastD_true (P := PairD b l1 l2) h)
  have HNo := Lib.hid (fun h => IsCor.no (b := b) (l1 := l1) (l2 := l2) (s := s) h)
  have HOk := Lib.hid (show ∀ x, x = CoOk b l1 l2 s → x = (pairB b l1 l2 = true ∧ coW b s l1.length = true ∧ ofP b.toNat l1 l2 (digC s) l1.length = false ∧ (leastD (PairD b l1 l2)).2 = true ∧ 3 ≤ (leastD (PairD b l1 l2)).1) from fun x hx => hx)
  clear h1 h2
  cases hpb : pairB b l1 l2
  · rw [hpb] at HP
    have HR := Lib.hid (HNo.out (fun h => by rw [HOk.out _ rfl, hpb] at h; exact absurd h.1 (by decide)))
    rw [HR.out]
    clear hpb
    go_enter Try.func45, Try.ntmps45
    go_wp2_with (go_at_call 36; (with_reducible refine (HP.out _ (by repeat (first | (with_reducible exact Ext.refl _) | (with_reducible refine Ext.drewN ?_ _) | (with_reducible refine Ext.drew ?_) | (with_reducible refine Ext.alloc ?_ _) | ((with_reducible refine Ext.setCell ?_ ?_ _); rotate_left; focus (first | (simp; done) | (simp; omega) | omega)) | assumption | (with_reducible refine Ext.trans ?_ (by assumption))))).mono ?_); rintro e w1 ⟨ca, cx, cc, cb, cy, cd, rfl, hcp, hx1⟩; have hx1' := hx1)
    refine bodyPost_ret (v := .tuple #[.string .empty, .int .i64 0, .bool false]) (by simp [results, Try.results45, go_sem] <;> rfl) rfl ⟨rfl, hx1.alloc _⟩
  obtain ⟨hb3, hll, hn1, hn20, hsm1, hsm2⟩ := pair_sizes hpb
  rw [HN1.out] at hn1 hn20 hll
  rw [HN2.out] at hll
  subst hll
  obtain ⟨m, rfl⟩ := Int.eq_ofNat_of_zero_le (show 0 ≤ b by omega)
  have hm2 : 2 ≤ m ∧ m ≤ 5 := by omega
  obtain ⟨hval, _, _⟩ := pair_facts hpb
  rw [hpb] at HP
  have HRo := Lib.hid (pair_runOk hpb s)
  have HCw := Lib.hid (fun h => pair_chkW (m := m) (n := n) (s := s) hpb rfl HN1.out h)
  have HCk := Lib.hid (fun xs h1 h2 => pair_chk (m := m) (n := n) (ds := xs) hpb rfl HN1.out h1 h2)
  have HSm := Lib.hid (show SmallCh (pairCh (m : Int) l1 l2) from by unfold pairCh; rw [if_pos hpb]; exact (pair_fit hpb).small)
  have HLs := Lib.hid (fun W xa xn xc ya yn yc (h : ChIn W (pairCh (m : Int) l1 l2) xa xn xc ya yn yc) => spec_LeastDistance (pairCh (m : Int) l1 l2) xa xn xc ya yn yc W h hval)
  have HDi : Hid (∀ d, LsT (pairCh (m : Int) l1 l2) (pairCh (m : Int) l1 l2).places.length (pairCh (m : Int) l1 l2).fin (pairCh (m : Int) l1 l2).fin d ↔ PairD (m : Int) l1 l2 d) := Lib.hid (fun d => (both_ends _ d).symm.trans ⟨fun h => ⟨hpb, h⟩, fun h => h.2⟩)
  have HPB := Lib.hid hpb
  rw [HN1.out] at HRo
  clear hpb hb3 hsm1 hsm2 hval
  obtain ⟨D, hD⟩ : ∃ D, D = pairCh (m : Int) l1 l2 := ⟨_, rfl⟩
  rw [← hD] at HP HRo HCw HCk HSm HLs HDi
  clear hD
  go_enter Try.func45, Try.ntmps45
  go_upto_region 2 with (go_at_call 36; (with_reducible refine (HP.out _ (by repeat (first | (with_reducible exact Ext.refl _) | (with_reducible refine Ext.drewN ?_ _) | (with_reducible refine Ext.drew ?_) | (with_reducible refine Ext.alloc ?_ _) | ((with_reducible refine Ext.setCell ?_ ?_ _); rotate_left; focus (first | (simp; done) | (simp; omega) | omega)) | assumption | (with_reducible refine Ext.trans ?_ (by assumption))))).mono ?_); rintro e w1 ⟨ca, cx, cc, cb, cy, cd, rfl, hcp, hx1⟩; have HI1 := Lib.hid hcp; have hx1' : Ext w w1 := hx1; clear hcp hx1)
  obtain ⟨wb, hwb⟩ : ∃ wb, wb = w1.alloc (.cells #[.int .i64 D.base, .int .i64 D.states, .int .i64 D.start, .int .i64 D.fin, .slice ca cx cc, .slice cb cy cd] 27) := ⟨_, rfl⟩
  obtain ⟨q, hq⟩ : ∃ q, q = w1.heap.size := ⟨_, rfl⟩
  have HA := Lib.hid (show ChAt wb q D ca cx cc cb cy cd by rw [hwb, hq]; exact HI1.out.box _)
  have hxb : Ext w wb := by rw [hwb]; exact hx1'.alloc _
  have HI := Lib.hid (show ChIn wb D ca cx cc cb cy cd by rw [hwb]; exact HI1.out.ext ((Ext.refl _).alloc _))
  rw [← hwb, ← hq]
  clear hwb hq HI1 hx1'
  obtain ⟨k0, k1, k2, k3, k4, k5, _, _⟩ := HA.out
  have hbb : Ext wb wb := Ext.refl _
  have HBo := Lib.hid (fun W (h : Ext wb W) => spec_l02Both D q ca cx cc cb cy cd s W (HA.out.ext h) HI.out.hn HI.out.hn' HSm.out hs)
  have HK := Lib.hid (fun t W (h : Ext wb W) (ht : t.size ≤ 1048576) => spec_l02Checked D q ca cx cc cb cy cd t W (HA.out.ext h) HI.out.hn HI.out.hn' HSm.out ht)
  rw [HRo.out] at HBo
  cases hw : coW (m : Int) s n
  · rw [hw] at HBo
    have HR := Lib.hid (HNo.out (fun h => by rw [HOk.out _ rfl] at h; have h2 := h.2.1; rw [HN1.out, hw] at h2; cases h2))
    clear hw
    go_wp2_with (go_at_call 84; (with_reducible refine (HBo.out _ (by repeat (first | (with_reducible exact Ext.refl _) | (with_reducible assumption) | (with_reducible refine Ext.drewN ?_ _) | (with_reducible refine Ext.drew ?_) | (with_reducible refine Ext.alloc ?_ _) | ((with_reducible refine Ext.setCell ?_ ?_ _); rotate_left; focus (first | (simp; done) | (simp; omega) | omega)) | (with_reducible refine Ext.trans ?_ (by with_reducible assumption))))).mono ?_); rintro e w2 ⟨rfl, hy2⟩; have hx2 : Ext wb w2 := Ext.trans (by repeat (first | (with_reducible exact Ext.refl _) | (with_reducible assumption) | (with_reducible refine Ext.drewN ?_ _) | (with_reducible refine Ext.drew ?_) | (with_reducible refine Ext.alloc ?_ _) | ((with_reducible refine Ext.setCell ?_ ?_ _); rotate_left; focus (first | (simp; done) | (simp; omega) | omega)) | (with_reducible refine Ext.trans ?_ (by with_reducible assumption)))) hy2; clear hy2)
    rw [HR.out]
    refine bodyPost_ret (v := .tuple #[.string .empty, .int .i64 0, .bool false]) (by simp [results, Try.results45, go_sem] <;> rfl) rfl ⟨rfl, hxb.trans hx2⟩
  have HCs := Lib.hid (HCw.out hw)
  obtain ⟨hdg, hsz, hdl, hwd⟩ := coW_t hw
  have hs20 : s.size = n := hsz
  rw [hw] at HBo
  obtain ⟨ds, hds⟩ : ∃ ds, ds = digC s := ⟨_, rfl⟩
  have HDs := Lib.hid hds
  rw [← hds] at HCs hdg hdl
  have HTx := Lib.hid (show textOf ds = s by rw [hds]; exact text_dig hwd)
  have HDg := Lib.hid hdg
  have HdL := Lib.hid hdl
  have HW := Lib.hid hw
  have HKs := Lib.hid (fun W (h : Ext wb W) => HK.out s W h hs)
  rw [HCs.out] at HKs
  clear hds hdg hdl hwd hw hsz
  cases hof : ofP m l1 l2 ds n
  rotate_left
  · rw [hof] at HKs
    have HR := Lib.hid (HNo.out (fun h => by rw [HOk.out _ rfl] at h; have h2 := h.2.2.1; rw [HN1.out, ← HDs.out, Int.toNat_natCast, hof] at h2; cases h2))
    clear hof
    go_wp2_with (first | (go_at_call 84; (with_reducible refine (HBo.out _ (by repeat (first | (with_reducible exact Ext.refl _) | (with_reducible assumption) | (with_reducible refine Ext.drewN ?_ _) | (with_reducible refine Ext.drew ?_) | (with_reducible refine Ext.alloc ?_ _) | ((with_reducible refine Ext.setCell ?_ ?_ _); rotate_left; focus (first | (simp; done) | (simp; omega) | omega)) | (with_reducible refine Ext.trans ?_ (by with_reducible assumption))))).mono ?_); rintro e w2 ⟨rfl, hy2⟩; have hx2 : Ext wb w2 := Ext.trans (by repeat (first | (with_reducible exact Ext.refl _) | (with_reducible assumption) | (with_reducible refine Ext.drewN ?_ _) | (with_reducible refine Ext.drew ?_) | (with_reducible refine Ext.alloc ?_ _) | ((with_reducible refine Ext.setCell ?_ ?_ _); rotate_left; focus (first | (simp; done) | (simp; omega) | omega)) | (with_reducible refine Ext.trans ?_ (by with_reducible assumption)))) hy2; clear hy2) | (go_at_call 89; (with_reducible refine (HKs.out _ (by repeat (first | (with_reducible exact Ext.refl _) | (with_reducible assumption) | (with_reducible refine Ext.drewN ?_ _) | (with_reducible refine Ext.drew ?_) | (with_reducible refine Ext.alloc ?_ _) | ((with_reducible refine Ext.setCell ?_ ?_ _); rotate_left; focus (first | (simp; done) | (simp; omega) | omega)) | (with_reducible refine Ext.trans ?_ (by with_reducible assumption))))).mono ?_); rintro e w3 ⟨rfl, hy3⟩; have hx3 : Ext wb w3 := Ext.trans (by repeat (first | (with_reducible exact Ext.refl _) | (with_reducible assumption) | (with_reducible refine Ext.drewN ?_ _) | (with_reducible refine Ext.drew ?_) | (with_reducible refine Ext.alloc ?_ _) | ((with_reducible refine Ext.setCell ?_ ?_ _); rotate_left; focus (first | (simp; done) | (simp; omega) | omega)) | (with_reducible refine Ext.trans ?_ (by with_reducible assumption)))) hy3; clear hy3))
    rw [HR.out]
    refine bodyPost_ret (v := .tuple #[.string .empty, .int .i64 0, .bool false]) (by simp [results, Try.results45, go_sem] <;> rfl) rfl ⟨rfl, hxb.trans hx3⟩
  rw [hof] at HKs
  have HOf := Lib.hid hof
  have HLD := Lib.hid (fun W (h : Ext wb W) => (HLs.out W ca cx cc cb cy cd (HI.out.ext h)).mono fun e w' (hr : RetPD _ W e w') => show Ret2 (.int .i64 (leastD (PairD (m : Int) l1 l2)).1) (.bool (leastD (PairD (m : Int) l1 l2)).2) W e w' from by
    obtain ⟨v, f, h1, h2, h3⟩ := hr
    obtain ⟨rfl, rfl⟩ := (isD_iff HDi.out h2).eq
    exact ⟨h1, h3⟩)
  clear hof HLs HDi
  generalize hv : (leastD (PairD (m : Int) l1 l2)).1 = v at HLD HOk HTr
  generalize hf : (leastD (PairD (m : Int) l1 l2)).2 = f at HLD HOk HTr
  clear hv hf
  cases f
  · have HR := Lib.hid (HNo.out (fun h => by rw [HOk.out _ rfl] at h; exact absurd h.2.2.2.1 (by decide)))
    go_wp2_with (first | (go_at_call 84; (with_reducible refine (HBo.out _ (by repeat (first | (with_reducible exact Ext.refl _) | (with_reducible assumption) | (with_reducible refine Ext.drewN ?_ _) | (with_reducible refine Ext.drew ?_) | (with_reducible refine Ext.alloc ?_ _) | ((with_reducible refine Ext.setCell ?_ ?_ _); rotate_left; focus (first | (simp; done) | (simp; omega) | omega)) | (with_reducible refine Ext.trans ?_ (by with_reducible assumption))))).mono ?_); rintro e w2 ⟨rfl, hy2⟩; have hx2 : Ext wb w2 := Ext.trans (by repeat (first | (with_reducible exact Ext.refl _) | (with_reducible assumption) | (with_reducible refine Ext.drewN ?_ _) | (with_reducible refine Ext.drew ?_) | (with_reducible refine Ext.alloc ?_ _) | ((with_reducible refine Ext.setCell ?_ ?_ _); rotate_left; focus (first | (simp; done) | (simp; omega) | omega)) | (with_reducible refine Ext.trans ?_ (by with_reducible assumption)))) hy2; clear hy2) | (go_at_call 89; (with_reducible refine (HKs.out _ (by repeat (first | (with_reducible exact Ext.refl _) | (with_reducible assumption) | (with_reducible refine Ext.drewN ?_ _) | (with_reducible refine Ext.drew ?_) | (with_reducible refine Ext.alloc ?_ _) | ((with_reducible refine Ext.setCell ?_ ?_ _); rotate_left; focus (first | (simp; done) | (simp; omega) | omega)) | (with_reducible refine Ext.trans ?_ (by with_reducible assumption))))).mono ?_); rintro e w3 ⟨rfl, hy3⟩; have hx3 : Ext wb w3 := Ext.trans (by repeat (first | (with_reducible exact Ext.refl _) | (with_reducible assumption) | (with_reducible refine Ext.drewN ?_ _) | (with_reducible refine Ext.drew ?_) | (with_reducible refine Ext.alloc ?_ _) | ((with_reducible refine Ext.setCell ?_ ?_ _); rotate_left; focus (first | (simp; done) | (simp; omega) | omega)) | (with_reducible refine Ext.trans ?_ (by with_reducible assumption)))) hy3; clear hy3) | (go_at_call 101; (with_reducible refine (HLD.out _ (by repeat (first | (with_reducible exact Ext.refl _) | (with_reducible assumption) | (with_reducible refine Ext.drewN ?_ _) | (with_reducible refine Ext.drew ?_) | (with_reducible refine Ext.alloc ?_ _) | ((with_reducible refine Ext.setCell ?_ ?_ _); rotate_left; focus (first | (simp; done) | (simp; omega) | omega)) | (with_reducible refine Ext.trans ?_ (by with_reducible assumption))))).mono ?_); rintro e w4 ⟨rfl, hy4⟩; have hx4 : Ext wb w4 := Ext.trans (by repeat (first | (with_reducible exact Ext.refl _) | (with_reducible assumption) | (with_reducible refine Ext.drewN ?_ _) | (with_reducible refine Ext.drew ?_) | (with_reducible refine Ext.alloc ?_ _) | ((with_reducible refine Ext.setCell ?_ ?_ _); rotate_left; focus (first | (simp; done) | (simp; omega) | omega)) | (with_reducible refine Ext.trans ?_ (by with_reducible assumption)))) hy4; clear hy4))
    rw [HR.out]
    refine bodyPost_ret (v := .tuple #[.string .empty, .int .i64 0, .bool false]) (by simp [results, Try.results45, go_sem] <;> rfl) rfl ⟨rfl, hxb.trans hx4⟩
  by_cases hv3 : v < 3
  · have HR := Lib.hid (HNo.out (fun h => by rw [HOk.out _ rfl] at h; have := h.2.2.2.2; omega))
    go_wp2_with (first | (go_at_call 84; (with_reducible refine (HBo.out _ (by repeat (first | (with_reducible exact Ext.refl _) | (with_reducible assumption) | (with_reducible refine Ext.drewN ?_ _) | (with_reducible refine Ext.drew ?_) | (with_reducible refine Ext.alloc ?_ _) | ((with_reducible refine Ext.setCell ?_ ?_ _); rotate_left; focus (first | (simp; done) | (simp; omega) | omega)) | (with_reducible refine Ext.trans ?_ (by with_reducible assumption))))).mono ?_); rintro e w2 ⟨rfl, hy2⟩; have hx2 : Ext wb w2 := Ext.trans (by repeat (first | (with_reducible exact Ext.refl _) | (with_reducible assumption) | (with_reducible refine Ext.drewN ?_ _) | (with_reducible refine Ext.drew ?_) | (with_reducible refine Ext.alloc ?_ _) | ((with_reducible refine Ext.setCell ?_ ?_ _); rotate_left; focus (first | (simp; done) | (simp; omega) | omega)) | (with_reducible refine Ext.trans ?_ (by with_reducible assumption)))) hy2; clear hy2) | (go_at_call 89; (with_reducible refine (HKs.out _ (by repeat (first | (with_reducible exact Ext.refl _) | (with_reducible assumption) | (with_reducible refine Ext.drewN ?_ _) | (with_reducible refine Ext.drew ?_) | (with_reducible refine Ext.alloc ?_ _) | ((with_reducible refine Ext.setCell ?_ ?_ _); rotate_left; focus (first | (simp; done) | (simp; omega) | omega)) | (with_reducible refine Ext.trans ?_ (by with_reducible assumption))))).mono ?_); rintro e w3 ⟨rfl, hy3⟩; have hx3 : Ext wb w3 := Ext.trans (by repeat (first | (with_reducible exact Ext.refl _) | (with_reducible assumption) | (with_reducible refine Ext.drewN ?_ _) | (with_reducible refine Ext.drew ?_) | (with_reducible refine Ext.alloc ?_ _) | ((with_reducible refine Ext.setCell ?_ ?_ _); rotate_left; focus (first | (simp; done) | (simp; omega) | omega)) | (with_reducible refine Ext.trans ?_ (by with_reducible assumption)))) hy3; clear hy3) | (go_at_call 101; (with_reducible refine (HLD.out _ (by repeat (first | (with_reducible exact Ext.refl _) | (with_reducible assumption) | (with_reducible refine Ext.drewN ?_ _) | (with_reducible refine Ext.drew ?_) | (with_reducible refine Ext.alloc ?_ _) | ((with_reducible refine Ext.setCell ?_ ?_ _); rotate_left; focus (first | (simp; done) | (simp; omega) | omega)) | (with_reducible refine Ext.trans ?_ (by with_reducible assumption))))).mono ?_); rintro e w4 ⟨rfl, hy4⟩; have hx4 : Ext wb w4 := Ext.trans (by repeat (first | (with_reducible exact Ext.refl _) | (with_reducible assumption) | (with_reducible refine Ext.drewN ?_ _) | (with_reducible refine Ext.drew ?_) | (with_reducible refine Ext.alloc ?_ _) | ((with_reducible refine Ext.setCell ?_ ?_ _); rotate_left; focus (first | (simp; done) | (simp; omega) | omega)) | (with_reducible refine Ext.trans ?_ (by with_reducible assumption)))) hy4; clear hy4))
    rw [HR.out]
    refine bodyPost_ret (v := .tuple #[.string .empty, .int .i64 0, .bool false]) (by simp [results, Try.results45, go_sem] <;> rfl) rfl ⟨rfl, hxb.trans hx4⟩
  have HC := Lib.hid (show CoOk (m : Int) l1 l2 s by
    rw [HOk.out _ rfl, HN1.out, Int.toNat_natCast, ← HDs.out]
    exact ⟨HPB.out, HW.out, HOf.out, rfl, by omega⟩)
  have HEq := Lib.hid (fun r (h : IsCo (CoOk (m : Int) l1 l2 s) m n l1 l2 ds r) => show corV (m : Int) l1 l2 s = r from IsCor.eq (by unfold IsCor; rw [HN1.out, Int.toNat_natCast, ← HDs.out]; exact h))
  go_wp2_with (first | (go_at_call 84; (with_reducible refine (HBo.out _ (by repeat (first | (with_reducible exact Ext.refl _) | (with_reducible assumption) | (with_reducible refine Ext.drewN ?_ _) | (with_reducible refine Ext.drew ?_) | (with_reducible refine Ext.alloc ?_ _) | ((with_reducible refine Ext.setCell ?_ ?_ _); rotate_left; focus (first | (simp; done) | (simp; omega) | omega)) | (with_reducible refine Ext.trans ?_ (by with_reducible assumption))))).mono ?_); rintro e w2 ⟨rfl, hy2⟩; have hx2 : Ext wb w2 := Ext.trans (by repeat (first | (with_reducible exact Ext.refl _) | (with_reducible assumption) | (with_reducible refine Ext.drewN ?_ _) | (with_reducible refine Ext.drew ?_) | (with_reducible refine Ext.alloc ?_ _) | ((with_reducible refine Ext.setCell ?_ ?_ _); rotate_left; focus (first | (simp; done) | (simp; omega) | omega)) | (with_reducible refine Ext.trans ?_ (by with_reducible assumption)))) hy2; clear hy2) | (go_at_call 89; (with_reducible refine (HKs.out _ (by repeat (first | (with_reducible exact Ext.refl _) | (with_reducible assumption) | (with_reducible refine Ext.drewN ?_ _) | (with_reducible refine Ext.drew ?_) | (with_reducible refine Ext.alloc ?_ _) | ((with_reducible refine Ext.setCell ?_ ?_ _); rotate_left; focus (first | (simp; done) | (simp; omega) | omega)) | (with_reducible refine Ext.trans ?_ (by with_reducible assumption))))).mono ?_); rintro e w3 ⟨rfl, hy3⟩; have hx3 : Ext wb w3 := Ext.trans (by repeat (first | (with_reducible exact Ext.refl _) | (with_reducible assumption) | (with_reducible refine Ext.drewN ?_ _) | (with_reducible refine Ext.drew ?_) | (with_reducible refine Ext.alloc ?_ _) | ((with_reducible refine Ext.setCell ?_ ?_ _); rotate_left; focus (first | (simp; done) | (simp; omega) | omega)) | (with_reducible refine Ext.trans ?_ (by with_reducible assumption)))) hy3; clear hy3) | (go_at_call 101; (with_reducible refine (HLD.out _ (by repeat (first | (with_reducible exact Ext.refl _) | (with_reducible assumption) | (with_reducible refine Ext.drewN ?_ _) | (with_reducible refine Ext.drew ?_) | (with_reducible refine Ext.alloc ?_ _) | ((with_reducible refine Ext.setCell ?_ ?_ _); rotate_left; focus (first | (simp; done) | (simp; omega) | omega)) | (with_reducible refine Ext.trans ?_ (by with_reducible assumption))))).mono ?_); rintro e w4 ⟨rfl, hy4⟩; have hx4 : Ext wb w4 := Ext.trans (by repeat (first | (with_reducible exact Ext.refl _) | (with_reducible assumption) | (with_reducible refine Ext.drewN ?_ _) | (with_reducible refine Ext.drew ?_) | (with_reducible refine Ext.alloc ?_ _) | ((with_reducible refine Ext.setCell ?_ ?_ _); rotate_left; focus (first | (simp; done) | (simp; omega) | omega)) | (with_reducible refine Ext.trans ?_ (by with_reducible assumption)))) hy4; clear hy4))
  clear HLD HBo HKs hv3
  go_loopw [15] (fun v15 wr => ∃ i : Nat, i ≤ n ∧ v15 = .int .i64 i ∧ Hid (NoneC m n l1 l2 ds i 0) ∧ Ext wb wr) (fun v15 _ => n - (intOf v15).toNat)
  case atStart => exact ⟨0, Nat.zero_le _, rfl, NoneC.zero, hx4⟩
  case round =>
    clear hx4 hx3 hx2
    obtain ⟨i, hi, rfl, HNn, hxr⟩ := hrel
    by_cases hlt : i < n
    · have hli : (i : Int) < (s.size : Int) := by omega
      have hldec : decide ((i : Int) < (s.size : Int)) = true := decide_eq_true hli
      have hidl : i < ds.length := by rw [HdL.out]; exact hlt
      go_wp2
      (try rw [hldec])
      go_loopw [16] (fun v16 wr => ∃ d : Nat, d ≤ m ∧ v16 = .int .i64 d ∧ Hid (NoneC m n l1 l2 ds i d) ∧ Ext wb wr) (fun v16 _ => m - (intOf v16).toNat)
      case atStart => exact ⟨0, Nat.zero_le _, rfl, HNn.out, hxr⟩
      case round =>
        clear HNn hxr
        obtain ⟨d, hd, rfl, HNn, hxr⟩ := hrel
        have hrr : Ext wr wr := Ext.refl _
        by_cases hltd : d < m
        · have HDn := Lib.hid (digs_set HDg.out i (e := (d : Int)) (by omega) (by omega))
          have HCt := Lib.hid (show s.extract 0 i ++ textOf [(d : Int)] ++ s.extract (i + 1) n = textOf (ds.set i (d : Int)) from by
            have h := set_textC (xs := ds) (pl := i) (d := (d : Int)) hidl
            rw [HTx.out, hs20] at h
            exact h)
          have hcv := fun W => sym_bytesC (d : Int) W
          have hts : (textOf [(d : Int)]).size = 1 := textOf_size _
          have HSy := Lib.hid (fun W => spec_symbol (d : Int) W (by omega) (by omega))
          have hts2 : (textOf (ds.set i (d : Int))).size = n := by rw [textOf_size, List.length_set]; exact HdL.out
          have HCd := Lib.hid (HCk.out (ds.set i (d : Int)) HDn.out (by rw [List.length_set]; exact HdL.out))
          have HKd := Lib.hid (fun W (h : Ext wb W) => HK.out (textOf (ds.set i (d : Int))) W h (by omega))
          rw [HCd.out] at HKd
          go_wp2
          (refine wp_region_fromC (D := [64]) wr (by repeat (first | (with_reducible exact Ext.refl _) | (with_reducible refine Ext.drewN ?_ _) | (with_reducible refine Ext.drew ?_) | (with_reducible refine Ext.alloc ?_ _) | ((with_reducible refine Ext.setCell ?_ ?_ _); rotate_left; focus (first | (simp; done) | (simp; omega) | omega)) | assumption | (with_reducible refine Ext.trans ?_ (by assumption)))) (by kernel_rfl) (by kernel_rfl) (by kernel_rfl) ?_; (repeat (first | (refine mixc_q rfl ?_; go_big_quiet_step (fail); refine wpQuiet_nil ?_; show wpMixC _ _ _ _ _ _ _ _) | (refine mixc_s rfl ?_; go_wp2_with ((go_at_call 103; refine (HSy.out _).mono ?_; rintro e w3 ⟨rfl, rfl⟩)); first | refine ⟨up_of (by repeat (first | (with_reducible exact Ext.refl _) | (with_reducible refine Ext.drewN ?_ _) | (with_reducible refine Ext.drew ?_) | (with_reducible refine Ext.alloc ?_ _) | ((with_reducible refine Ext.setCell ?_ ?_ _); rotate_left; focus (first | (simp; done) | (simp; omega) | omega)) | assumption | (with_reducible refine Ext.trans ?_ (by assumption)))), ?_⟩ | refine ⟨rfl, rfl, up_of (by repeat (first | (with_reducible exact Ext.refl _) | (with_reducible refine Ext.drewN ?_ _) | (with_reducible refine Ext.drew ?_) | (with_reducible refine Ext.alloc ?_ _) | ((with_reducible refine Ext.setCell ?_ ?_ _); rotate_left; focus (first | (simp; done) | (simp; omega) | omega)) | assumption | (with_reducible refine Ext.trans ?_ (by assumption)))), ?_⟩))); refine mixc_nil ?_)
          rw [HCt.out]
          by_cases hsame : (d : Int) = gi ds i
          · have HT := Lib.hid (show textOf (ds.set i (d : Int)) = s by rw [hsame, set_same ds hidl]; exact HTx.out)
            have hh : HitC m n l1 l2 ds i d = false := by unfold HitC; rw [hsame, set_same ds hidl]; exact HOf.out
            have HNx := Lib.hid (HNn.out.step hh)
            rw [HT.out]
            clear hsame hh
            go_wp2_with fail
            exact ⟨⟨d + 1, by omega, by go_num, HNx.out, hxr.trans (by repeat (first | (with_reducible exact Ext.refl _) | (with_reducible refine Ext.drewN ?_ _) | (with_reducible refine Ext.drew ?_) | (with_reducible refine Ext.alloc ?_ _) | ((with_reducible refine Ext.setCell ?_ ?_ _); rotate_left; focus (first | (simp; done) | (simp; omega) | omega)) | assumption | (with_reducible refine Ext.trans ?_ (by assumption))))⟩, by simp [intOf]; omega⟩
          · have hne : ((textOf (ds.set i (d : Int))).toList == s.toList) = false := by
              cases h : ((textOf (ds.set i (d : Int))).toList == s.toList)
              · rfl
              · exfalso
                have h2 := ba_eqC (beq_iff_eq.1 h)
                rw [← HTx.out] at h2
                have h3 := text_inj (fun e he => by have := HDn.out e he; omega) (fun e he => by have := HDg.out e he; omega) h2
                have h4 := congrArg (fun l => gi l i) h3
                rw [gi_setS2 ds (d : Int) hidl] at h4
                exact hsame h4
            cases hh : HitC m n l1 l2 ds i d
            · have hh2 : ofP m l1 l2 (ds.set i (d : Int)) n = false := hh
              rw [hh2] at HKd
              have HNx := Lib.hid (HNn.out.step hh)
              clear hh hh2 hsame
              go_wp2_with (go_at_call 89; (with_reducible refine (HKd.out _ (hxr.trans (by repeat (first | (with_reducible exact Ext.refl _) | (with_reducible assumption) | (with_reducible refine Ext.drewN ?_ _) | (with_reducible refine Ext.drew ?_) | (with_reducible refine Ext.alloc ?_ _) | ((with_reducible refine Ext.setCell ?_ ?_ _); rotate_left; focus (first | (simp; done) | (simp; omega) | omega)) | (with_reducible refine Ext.trans ?_ (by with_reducible assumption)))))).mono ?_); rintro e w5 ⟨rfl, hy5⟩; have hx5 : Ext wb w5 := hxr.trans (Ext.trans (by repeat (first | (with_reducible exact Ext.refl _) | (with_reducible assumption) | (with_reducible refine Ext.drewN ?_ _) | (with_reducible refine Ext.drew ?_) | (with_reducible refine Ext.alloc ?_ _) | ((with_reducible refine Ext.setCell ?_ ?_ _); rotate_left; focus (first | (simp; done) | (simp; omega) | omega)) | (with_reducible refine Ext.trans ?_ (by with_reducible assumption)))) hy5); clear hy5)
              exact ⟨⟨d + 1, by omega, by go_num, HNx.out, hx5⟩, by simp [intOf]; omega⟩
            · have hh2 : ofP m l1 l2 (ds.set i (d : Int)) n = true := hh
              rw [hh2] at HKd
              have HE := Lib.hid (HEq.out _ (.inl ⟨HC.out, i, d, hlt, hltd, HNn.out, hh, rfl⟩))
              clear hh hh2 hsame
              go_wp2_with (go_at_call 89; (with_reducible refine (HKd.out _ (hxr.trans (by repeat (first | (with_reducible exact Ext.refl _) | (with_reducible assumption) | (with_reducible refine Ext.drewN ?_ _) | (with_reducible refine Ext.drew ?_) | (with_reducible refine Ext.alloc ?_ _) | ((with_reducible refine Ext.setCell ?_ ?_ _); rotate_left; focus (first | (simp; done) | (simp; omega) | omega)) | (with_reducible refine Ext.trans ?_ (by with_reducible assumption)))))).mono ?_); rintro e w5 ⟨rfl, hy5⟩; have hx5 : Ext wb w5 := hxr.trans (Ext.trans (by repeat (first | (with_reducible exact Ext.refl _) | (with_reducible assumption) | (with_reducible refine Ext.drewN ?_ _) | (with_reducible refine Ext.drew ?_) | (with_reducible refine Ext.alloc ?_ _) | ((with_reducible refine Ext.setCell ?_ ?_ _); rotate_left; focus (first | (simp; done) | (simp; omega) | omega)) | (with_reducible refine Ext.trans ?_ (by with_reducible assumption)))) hy5); clear hy5)
              refine bodyPost_ret (v := .tuple #[.string (textOf (ds.set i (d : Int))), .int .i64 i, .bool true]) (by simp [results, Try.results45, go_sem]) rfl ⟨by rw [HE.out], hxb.trans hx5⟩
        · obtain rfl : d = m := by omega
          have HNx := Lib.hid HNn.out.next
          go_wp2
          exact ⟨⟨i + 1, by omega, by go_num, HNx.out, hxr⟩, by simp [intOf]; omega⟩
    · obtain rfl : i = n := by omega
      have hldec : decide ((i : Int) < (s.size : Int)) = false := decide_eq_false (by omega)
      have HE := Lib.hid (HEq.out _ (.inr ⟨fun _ => HNn.out, rfl⟩))
      go_wp2
      refine bodyPost_ret (v := .tuple #[.string .empty, .int .i64 0, .bool false]) (by simp [results, Try.results45, go_sem] <;> rfl) rfl ⟨by rw [HE.out], hxb.trans hxr⟩
end Go.Proofs.Ytaiieodllhoelaa
