/- Plain, walks: whether a place is a check place, in the reference. -/
import Derived.Test.YtlpbflmgkopklaaIcp
namespace Go.Proofs.Ytlpbflmgkopklaa
set_option maxRecDepth 100000
open Go.RowKit

/-- a number put to its place among rising ones, once -/
def putL (x : Int) : List Int → List Int
  | [] => [x]
  | y :: t => if x < y then x :: y :: t else if x = y then y :: t else y :: putL x t
theorem putL_mem {x y : Int} : ∀ {l : List Int}, y ∈ putL x l ↔ y = x ∨ y ∈ l
  | [] => by simp [putL]
  | z :: t => by
    rw [putL]
    split
    · simp
    · split
      · rename_i h; subst h; simp
      · have := putL_mem (x := x) (y := y) (l := t)
        simp only [List.mem_cons, this]
        constructor
        · rintro (h | h | h) <;> simp [h]
        · rintro (h | h | h) <;> simp [h]
theorem putL_rise {x : Int} : ∀ {l : List Int}, l.Pairwise (· < ·) → (putL x l).Pairwise (· < ·)
  | [], _ => by simp [putL]
  | z :: t, h => by
    rw [List.pairwise_cons] at h
    rw [putL]
    split
    · rename_i hx
      rw [List.pairwise_cons, List.pairwise_cons]
      refine ⟨fun y hy => ?_, h⟩
      rcases List.mem_cons.1 hy with rfl | hy
      · exact hx
      · have := h.1 y hy; omega
    · split
      · rw [List.pairwise_cons]; exact h
      · rw [List.pairwise_cons]
        refine ⟨fun y hy => ?_, putL_rise h.2⟩
        rcases putL_mem.1 hy with rfl | hy
        · omega
        · exact h.1 y hy
theorem putL_len (x : Int) : ∀ l : List Int, (putL x l).length ≤ l.length + 1
  | [] => by simp [putL]
  | z :: t => by
    rw [putL]
    have := putL_len x t
    split
    · simp
    · split <;> simp <;> omega
/-- one number more -/
def pst (x : Int) (s : Bool × List Int) (y : Int) : Bool × List Int :=
  if (!s.1 && decide (x ≤ y)) = true then (true, if x < y then s.2 ++ [x] ++ [y] else s.2 ++ [y]) else (s.1, s.2 ++ [y])
theorem pst_true {x : Int} : ∀ {l : List Int} {o : List Int}, l.foldl (pst x) (true, o) = (true, o ++ l)
  | [], o => by simp
  | y :: t, o => by
    rw [List.foldl_cons, show pst x (true, o) y = (true, o ++ [y]) by simp [pst], pst_true]
    simp
theorem pst_put {x : Int} : ∀ {l : List Int} {o : List Int}, (if (l.foldl (pst x) (false, o)).1 = true then (l.foldl (pst x) (false, o)).2 else (l.foldl (pst x) (false, o)).2 ++ [x]) = o ++ putL x l
  | [], o => by simp [putL]
  | y :: t, o => by
    rw [List.foldl_cons, putL]
    by_cases h : x ≤ y
    · rw [show pst x (false, o) y = (true, if x < y then o ++ [x] ++ [y] else o ++ [y]) by simp [pst, h], pst_true, if_pos rfl]
      by_cases h2 : x < y
      · simp [h2]
      · have : x = y := by omega
        simp [this]
    · rw [show pst x (false, o) y = (false, o ++ [y]) by simp [pst, h], pst_put, if_neg (by omega), if_neg (by omega)]
      simp
theorem rise_len : ∀ {l : List Int} {lo hi : Int}, l.Pairwise (· < ·) → (∀ x ∈ l, lo ≤ x ∧ x < hi) → (l.length : Int) ≤ hi - lo ∨ l = []
  | [], _, _, _, _ => .inr rfl
  | x :: t, lo, hi, h, hb => by
    left
    rw [List.pairwise_cons] at h
    have hx := hb x (List.mem_cons_self ..)
    rcases rise_len (lo := x + 1) (hi := hi) h.2 (fun y hy => ⟨by have := h.1 y hy; omega, (hb y (List.mem_cons_of_mem _ hy)).2⟩) with h1 | rfl
    · simp only [List.length_cons]; omega
    · simp only [List.length_cons, List.length_nil]; omega
theorem rise_len2 {l : List Int} {m : Nat} (h : l.Pairwise (· < ·)) (hb : ∀ x ∈ l, 0 ≤ x ∧ x < (m : Int)) : l.length ≤ m := by
  rcases rise_len h hb with h1 | rfl
  · omega
  · simp
theorem own_one (w : World) (E : TypeId) (v : Value) : Own (w.alloc (.cells #[v] E)) w.heap.size E (some ⟨w.heap.size, 0, none⟩) 1 1 [v] :=
  World.ownsRow_lit (e := E) (size := 1) w #[v] 1 (Nat.le_refl _) (by decide) rfl
set_option maxHeartbeats 4000000 in
theorem spec_put (a : Option Addr) (n c : Nat) (l : List Int) (x : Int) (w : World) (hv : Ints w a n c l) (hn : n ≤ 1048576) :
    Calls Try.prog 99 #[.slice a n c, .int .i64 x] w (RetOwn 2 (I (putL x l)) w) := by
  obtain ⟨b, off, hix, hcell⟩ := hv.ix (P := Try.prog) 22 2 und_int64s cell_int64
  have HL := Lib.hid hv.len
  have HP := Lib.hid (pst_put (x := x) (l := l) (o := []))
  clear hv
  go_enter Try.func99, Try.ntmps99
  go_wp2
  go_loopw [5, 6, 7] (fun s5 s6 s7 wr => ∃ (k : Nat) (dn : Bool) (out : List Int) (ad : Option Addr) (no ca : Nat), k ≤ n ∧ s7 = .int .i64 k ∧ s6 = .bool dn ∧ s5 = .slice ad no ca ∧ no ≤ k + 1 ∧ Hid (out.length = no) ∧ (dn = false → no ≤ k) ∧ Hid ((l.take k).foldl (pst x) (false, []) = (dn, out)) ∧ Hid (Own wr w.heap.size 2 ad no ca (I out)) ∧ Ext w wr) (fun _ _ s7 _ => n - (intOf s7).toNat)
  case atStart => exact ⟨0, false, [], _, _, _, Nat.zero_le _, rfl, rfl, rfl, Nat.zero_le _, rfl, fun _ => Nat.le_refl _, rfl, Own.lit0 w _, (by repeat (first | (with_reducible exact Ext.refl _) | (with_reducible refine Ext.drewN ?_ _) | (with_reducible refine Ext.drew ?_) | (with_reducible refine Ext.alloc ?_ _) | ((with_reducible refine Ext.setCell ?_ ?_ _); rotate_left; focus (first | (simp; done) | (simp; omega) | omega)) | assumption | (with_reducible refine Ext.trans ?_ (by assumption))))⟩
  case round =>
    obtain ⟨k, dn, out, ad, no, ca, hk, rfl, rfl, rfl, hno, Hlo, hnd, HF, HO, hx⟩ := hrel
    by_cases hkn : k < n
    · have HF1 := Lib.hid (show (l.take (k + 1)).foldl (pst x) (false, []) = pst x (dn, out) (gi l k) by rw [take_gi (by rw [HL.out]; exact hkn), List.foldl_append, HF.out]; rfl)
      cases dn
      · by_cases hxy : x ≤ gi l k
        · by_cases hlt : x < gi l k
          · have HF2 := Lib.hid (HF1.out.trans (show _ = (true, out ++ [x] ++ [gi l k]) by simp [pst, hxy, hlt]))
            have hn1 := hnd rfl
            have HI2 := Lib.hid (show I (out ++ [x] ++ [gi l k]) = I out ++ [.int .i64 x] ++ [.int .i64 (gi l k)] by rw [I_append, I_append]; rfl)
            have hox := HO.out
            clear hnd
            go_wp2_with (first | (at_builtin; refine law_append1 _ rfl _ _ 22 rfl 2 (.int .i64 0) 8 und_int64s info_int64 rfl w.heap.size ad no ca _ _ rfl rfl rfl hox (hx).le (by omega) (by omega) ?_; intro ad' c' w1 ho1 hb1 hg1; have hxw1 : Ext w w1 := Ext.below (hx) hb1) | (at_builtin; refine law_append1 _ rfl _ _ 22 rfl 2 (.int .i64 0) 8 und_int64s info_int64 rfl w.heap.size ad' (no + 1) c' _ _ rfl rfl rfl ho1 (hxw1).le (by omega) (by omega) ?_; intro adb' cb' wb1 hob1 hbb1 hgb1; have hxwb1 : Ext w wb1 := Ext.below (hxw1) hbb1))
            exact ⟨⟨k + 1, true, out ++ [x] ++ [gi l k], adb', no + 1 + 1, cb', hkn, by go_num, rfl, rfl, by omega, by rw [Hid, List.length_append, List.length_append, Hlo.out]; rfl, (fun h => by cases h), HF2, by rw [HI2.out]; exact hob1, hxwb1⟩, by simp [intOf]; omega⟩
          · have HF2 := Lib.hid (HF1.out.trans (show _ = (true, out ++ [gi l k]) by simp [pst, hxy, hlt]))
            have hn1 := hnd rfl
            clear hnd
            go_wp2_with (at_builtin; refine law_append1 _ rfl _ _ 22 rfl 2 (.int .i64 0) 8 und_int64s info_int64 rfl w.heap.size ad no ca _ _ rfl rfl rfl HO.out (hx).le (by omega) (by omega) ?_; intro ad' c' w1 ho1 hb1 hg1; have hxw1 : Ext w w1 := Ext.below (hx) hb1)
            exact ⟨⟨k + 1, true, out ++ [gi l k], ad', no + 1, c', hkn, by go_num, rfl, rfl, by omega, by rw [Hid, List.length_append, Hlo.out]; rfl, (fun h => by cases h), HF2, by rw [I_append]; exact ho1, hxw1⟩, by simp [intOf]; omega⟩
        · have HF2 := Lib.hid (HF1.out.trans (show _ = (false, out ++ [gi l k]) by simp [pst, hxy]))
          have hn1 := hnd rfl
          clear hnd
          go_wp2_with (at_builtin; refine law_append1 _ rfl _ _ 22 rfl 2 (.int .i64 0) 8 und_int64s info_int64 rfl w.heap.size ad no ca _ _ rfl rfl rfl HO.out (hx).le (by omega) (by omega) ?_; intro ad' c' w1 ho1 hb1 hg1; have hxw1 : Ext w w1 := Ext.below (hx) hb1)
          exact ⟨⟨k + 1, false, out ++ [gi l k], ad', no + 1, c', hkn, by go_num, rfl, rfl, by omega, by rw [Hid, List.length_append, Hlo.out]; rfl, fun _ => by omega, HF2, by rw [I_append]; exact ho1, hxw1⟩, by simp [intOf]; omega⟩
      · have HF2 := Lib.hid (HF1.out.trans (show _ = (true, out ++ [gi l k]) by simp [pst]))
        clear hnd
        go_wp2_with (at_builtin; refine law_append1 _ rfl _ _ 22 rfl 2 (.int .i64 0) 8 und_int64s info_int64 rfl w.heap.size ad no ca _ _ rfl rfl rfl HO.out (hx).le (by omega) (by omega) ?_; intro ad' c' w1 ho1 hb1 hg1; have hxw1 : Ext w w1 := Ext.below (hx) hb1)
        exact ⟨⟨k + 1, true, out ++ [gi l k], ad', no + 1, c', hkn, by go_num, rfl, rfl, by omega, by rw [Hid, List.length_append, Hlo.out]; rfl, (fun h => by cases h), HF2, by rw [I_append]; exact ho1, hxw1⟩, by simp [intOf]; omega⟩
    · obtain rfl : n = k := by omega
      rw [take_full (by rw [HL.out]; exact Nat.le_refl _)] at HF
      rw [HF.out] at HP
      cases dn
      · have HR := Lib.hid (show putL x l = out ++ [x] from by have := HP.out; simpa using this.symm)
        have hn1 := hnd rfl
        clear hnd
        go_wp2_with (at_builtin; refine law_append1 _ rfl _ _ 22 rfl 2 (.int .i64 0) 8 und_int64s info_int64 rfl w.heap.size ad no ca _ _ rfl rfl rfl HO.out (hx).le (by omega) (by omega) ?_; intro ad' c' w1 ho1 hb1 hg1; have hxw1 : Ext w w1 := Ext.below (hx) hb1)
        go_ret
        rw [HR.out]
        exact RetOwn.mk (by rw [I_append]; exact ho1) (by rw [List.length_append, Hlo.out]; rfl) hxw1
      · have HR := Lib.hid (show putL x l = out from by have := HP.out; simpa using this.symm)
        clear hnd
        go_wp2_with fail
        go_ret
        rw [HR.out]
        exact RetOwn.mk HO.out Hlo.out hx
/-- what the first i numbers and d symbols of the next one reach -/
def hitL (L : List Int) (x : Int) (m bs i d : Nat) (y : Int) : Prop := ∃ a e : Nat, y = (gi L a + x * e) % m ∧ (a < i ∧ e < bs ∨ a = i ∧ e < d)
theorem hitL_zero {L : List Int} {x y : Int} {m bs : Nat} : ¬ hitL L x m bs 0 0 y := by rintro ⟨a, e, _, h | h⟩ <;> omega
theorem hitL_step {L : List Int} {x y : Int} {m bs i d : Nat} : hitL L x m bs i (d + 1) y ↔ y = (gi L i + x * d) % m ∨ hitL L x m bs i d y := by
  constructor
  · rintro ⟨a, e, h2, h | ⟨rfl, h⟩⟩
    · exact .inr ⟨a, e, h2, .inl h⟩
    · rcases Nat.lt_or_ge e d with he | he
      · exact .inr ⟨a, e, h2, .inr ⟨rfl, he⟩⟩
      · obtain rfl : e = d := by omega
        exact .inl h2
  · rintro (h | ⟨a, e, h2, h | ⟨rfl, h⟩⟩)
    · exact ⟨i, d, h, .inr ⟨rfl, by omega⟩⟩
    · exact ⟨a, e, h2, .inl h⟩
    · exact ⟨a, e, h2, .inr ⟨rfl, by omega⟩⟩
theorem hitL_next {L : List Int} {x y : Int} {m bs i : Nat} : hitL L x m bs (i + 1) 0 y ↔ hitL L x m bs i bs y := by
  constructor
  · rintro ⟨a, e, h2, ⟨h, he⟩ | h⟩
    · rcases Nat.lt_or_ge a i with ha | ha
      · exact ⟨a, e, h2, .inl ⟨ha, he⟩⟩
      · exact ⟨a, e, h2, .inr ⟨by omega, he⟩⟩
    · omega
  · rintro ⟨a, e, h2, ⟨h, he⟩ | ⟨rfl, h⟩⟩
    · exact ⟨a, e, h2, .inl ⟨by omega, he⟩⟩
    · exact ⟨a, e, h2, .inl ⟨by omega, h⟩⟩
theorem hitL_rch {L l : List Int} {m bs p k : Nat} {y : Int} (hk : k ≠ p) (h : ∀ r, r ∈ L ↔ rch bs m l p k r) : hitL L (gi l k) m bs L.length 0 y ↔ rch bs m l p (k + 1) y := by
  rw [rch, if_neg hk]
  constructor
  · rintro ⟨a, e, h2, ⟨h3, he⟩ | h3⟩
    · exact ⟨gi L a, (h _).1 (gi_mem h3), e, he, h2⟩
    · omega
  · rintro ⟨a, h1, d, hd, h2⟩
    obtain ⟨i, hi, rfl⟩ := List.mem_iff_getElem.1 ((h a).2 h1)
    exact ⟨i, d, by rw [gi_get hi]; exact h2, .inl ⟨hi, hd⟩⟩
set_option maxHeartbeats 8000000 in
theorem spec_icp (W : Wt) (a : Option Addr) (n c : Nat) (place : Int) (w : World) (hw : Ints w a n c W.weights) :
    Calls Try.prog 91 #[.agg #[.int .i64 W.base, .int .i64 W.modulus, .int .i64 W.target, .slice a n c], .int .i64 place] w (Ret (.bool (icpB W place)) w) := by
  obtain ⟨base, modulus, target, l⟩ := W
  simp only at hw ⊢
  have HB := Lib.hid (isWt_box w base modulus target l a n c 34 hw)
  have HV := Lib.hid (spec_is w.heap.size ⟨base, modulus, target, l⟩ a n c _ HB.out)
  have HIn := Lib.hid (fun W' => spec_in place 0 ((n : Int) - 1) W')
  have HL := Lib.hid hw.len
  obtain ⟨ba, off, hix, hcell⟩ := hw.ix (P := Try.prog) 22 2 und_int64s cell_int64
  clear hw
  cases hv : validB ⟨base, modulus, target, l⟩
  · rw [hv] at HV
    have HO := Lib.hid (show icpB ⟨base, modulus, target, l⟩ place = false by rw [icpB, hv]; rfl)
    clear hv
    go_enter Try.func91, Try.ntmps91
    go_wp2_with ((with_reducible refine HV.out.mono ?_); rintro e w1 ⟨rfl, q, rfl⟩)
    go_ret
    exact ⟨rb HO.out.symm, (by repeat (first | (with_reducible exact Ext.refl _) | (with_reducible assumption) | (with_reducible refine Ext.drewN ?_ _) | (with_reducible refine Ext.drew ?_) | (with_reducible refine Ext.alloc ?_ _) | ((with_reducible refine Ext.setCell ?_ ?_ _); rotate_left; focus (first | (simp; done) | (simp; omega) | omega)) | (with_reducible refine Ext.trans ?_ (by with_reducible assumption))))⟩
  rw [hv] at HV
  have hg := validB_good hv
  have ht := validB_target hv
  obtain ⟨wB, hwB⟩ : ∃ x, x = w.alloc (.cells #[.int .i64 base, .int .i64 modulus, .int .i64 target, .slice a n c] 34) := ⟨_, rfl⟩
  have hxB : Ext w wB := by rw [hwB]; exact (by repeat (first | (with_reducible exact Ext.refl _) | (with_reducible refine Ext.drewN ?_ _) | (with_reducible refine Ext.drew ?_) | (with_reducible refine Ext.alloc ?_ _) | ((with_reducible refine Ext.setCell ?_ ?_ _); rotate_left; focus (first | (simp; done) | (simp; omega) | omega)) | assumption | (with_reducible refine Ext.trans ?_ (by assumption))))
  have HWB := Lib.hid hwB
  rw [← hwB] at HB HV
  obtain ⟨c0, c1, c2, c3, _⟩ := HB.out
  simp only at c0 c1 c2 c3
  have hg1 := hg.l1
  have hg2 := hg.l20
  have hg3 := hg.small
  have hg4 := hg.m2
  have hg5 := hg.m36
  have hg6 := hg.b2
  have hg7 := hg.b36
  simp only at hg1 hg2 hg3 hg4 hg5 hg6 hg7 ht
  rw [HL.out] at hg1 hg2
  obtain ⟨m, rfl⟩ := Int.eq_ofNat_of_zero_le (show 0 ≤ modulus by omega)
  obtain ⟨bs, rfl⟩ := Int.eq_ofNat_of_zero_le (show 0 ≤ base by omega)
  have k0 : ∀ w', Ext wB w' → w'.cell? ⟨w.heap.size, 0, none⟩ = some (.int .i64 bs) := fun w' h => h.cell c0
  have k1 : ∀ w', Ext wB w' → w'.cell? ⟨w.heap.size, 1, none⟩ = some (.int .i64 m) := fun w' h => h.cell c1
  have k2 : ∀ w', Ext wB w' → w'.cell? ⟨w.heap.size, 2, none⟩ = some (.int .i64 target) := fun w' h => h.cell c2
  have k3 : ∀ w', Ext wB w' → w'.cell? ⟨w.heap.size, 3, none⟩ = some (.slice a n c) := fun w' h => h.cell c3
  have HSm := Lib.hid (fun k (hk : k < n) => hg3.at k (by rw [HL.out]; exact hk))
  have hxBB : Ext wB wB := Ext.refl _
  cases hp : inB place 0 ((n : Int) - 1)
  · rw [hp] at HIn
    have HO := Lib.hid (show icpB ⟨bs, m, target, l⟩ place = false by rw [icpB, hv]; simp only [HL.out, hp]; rfl)
    clear hv hp hwB hg hg3
    go_enter Try.func91, Try.ntmps91
    go_wp2_with fail
    rw [← HWB.out]
    go_wp2_with (first | ((with_reducible refine HV.out.mono ?_); rintro e w1 ⟨rfl, q, rfl⟩) | ((with_reducible refine (HIn.out _).mono ?_); rintro e w2 ⟨rfl, rfl⟩))
    go_ret
    exact ⟨rb HO.out.symm, (by repeat (first | (with_reducible exact Ext.refl _) | (with_reducible assumption) | (with_reducible refine Ext.drewN ?_ _) | (with_reducible refine Ext.drew ?_) | (with_reducible refine Ext.alloc ?_ _) | ((with_reducible refine Ext.setCell ?_ ?_ _); rotate_left; focus (first | (simp; done) | (simp; omega) | omega)) | (with_reducible refine Ext.trans ?_ (by with_reducible assumption))))⟩
  rw [hp] at HIn
  obtain ⟨p1, p2⟩ := inB_t.1 hp
  obtain ⟨p, rfl⟩ := Int.eq_ofNat_of_zero_le (show 0 ≤ place by omega)
  have hpn : p < n := by omega
  have HT := Lib.hid (fun (h : oneSym bs m target l p) => show icpB ⟨bs, m, target, l⟩ p = true by rw [icpB, hv]; simp only [HL.out, hp, Int.toNat_natCast]; simp [h])
  have HF := Lib.hid (fun (h : ¬ oneSym bs m target l p) => show icpB ⟨bs, m, target, l⟩ p = false by rw [icpB, hv]; simp only [HL.out, hp, Int.toNat_natCast]; simp [h])
  have hm0 : 0 < m := by omega
  clear hv hp hwB hg hg3
  go_enter Try.func91, Try.ntmps91
  go_wp2_with fail
  rw [← HWB.out]
  go_wp2_with (first | ((with_reducible refine HV.out.mono ?_); rintro e w1 ⟨rfl, q, rfl⟩; have hb1 : Ext wB (wB.drewN q) := (by repeat (first | (with_reducible exact Ext.refl _) | (with_reducible assumption) | (with_reducible refine Ext.drewN ?_ _) | (with_reducible refine Ext.drew ?_) | (with_reducible refine Ext.alloc ?_ _) | ((with_reducible refine Ext.setCell ?_ ?_ _); rotate_left; focus (first | (simp; done) | (simp; omega) | omega)) | (with_reducible refine Ext.trans ?_ (by with_reducible assumption))))) | ((with_reducible refine (HIn.out _).mono ?_); rintro e w2 ⟨rfl, rfl⟩))
  have HI0 := Lib.hid (show Ints ((wB.drewN q).alloc (.cells #[.int .i64 0] 2)) (some ⟨(wB.drewN q).heap.size, 0, none⟩) 1 1 [0] from (own_one _ _ (.int .i64 0)).sl)
  go_loopg [5, 6, 7, 8, 9, 10] n (fun gk s5 s6 _ _ _ _ wr => ∃ (k : Nat) (L : List Int) (ad : Option Addr) (nl ca : Nat), k ≤ n ∧ gk = n - k ∧ s6 = .int .i64 k ∧ s5 = .slice ad nl ca ∧ Hid (L.length = nl) ∧ Hid (L.Pairwise (· < ·)) ∧ Hid (∀ r, r ∈ L ↔ rch bs m l p k r) ∧ Hid (Ints wr ad nl ca L) ∧ Ext wB wr)
  case atStart => exact ⟨0, [0], _, 1, 1, Nat.zero_le _, rfl, rfl, rfl, rfl, by simp [Hid], Lib.hid (fun r => by rw [List.mem_singleton]; rfl), HI0, (by repeat (first | (with_reducible exact Ext.refl _) | (with_reducible assumption) | (with_reducible refine Ext.drewN ?_ _) | (with_reducible refine Ext.drew ?_) | (with_reducible refine Ext.alloc ?_ _) | ((with_reducible refine Ext.setCell ?_ ?_ _); rotate_left; focus (first | (simp; done) | (simp; omega) | omega)) | (with_reducible refine Ext.trans ?_ (by with_reducible assumption))))⟩
  case round =>
    obtain ⟨k, L, ad, nl, ca, hk, rfl, rfl, rfl, HLl, HRi, HG, HI, hxr⟩ := hrel
    obtain ⟨wr0, rfl⟩ : ∃ x, x = wr := ⟨_, rfl⟩
    have hxwr : Ext w wr0 := hxB.trans hxr
    have hnlm : nl ≤ m := by rw [← HLl.out]; exact rise_len2 HRi.out fun r hr => rch_bd (by omega) ((HG.out r).1 hr)
    have HBd := Lib.hid (fun i (hi : i < nl) => rch_bd (by omega) ((HG.out (gi L i)).1 (gi_mem (by rw [HLl.out]; exact hi))))
    by_cases hkn : k < n
    · by_cases hkp : k = p
      · subst hkp
        have HG1 := Lib.hid (show ∀ r, r ∈ L ↔ rch bs m l k (k + 1) r from fun r => by rw [rch, if_pos rfl]; exact HG.out r)
        go_wp2_with fail
        go_roundg (n - (k + 1))
        case measure => omega
        case rel => exact ⟨k + 1, L, ad, nl, ca, hkn, rfl, by go_num, rfl, HLl, HRi, HG1, HI, hxr⟩
      · have hkpi : ((k : Int) == (p : Int)) = false := by simp; omega
        have hxk := HSm.out k hkn
        have hgk : gi l k = l.getD k 0 := rfl
        rw [← hgk] at hxk
        have HGn := Lib.hid (fun y => hitL_rch (L := L) (l := l) (y := y) hkp HG.out)
        rw [HLl.out] at HGn
        clear hgk hkp
        go_wp2_with fail
        have HN0 := Lib.hid (show Ints (wr0.alloc (.cells #[] 2)) (some ⟨wr0.heap.size, 0, none⟩) 0 0 [] from (Own.lit0 wr0 2).sl)
        go_loopg [7, 8, 9, 10] nl (fun gk s7 s8 _ _ wr => ∃ (i : Nat) (L2 : List Int) (a2 : Option Addr) (n2 c2 : Nat), i ≤ nl ∧ gk = nl - i ∧ s8 = .int .i64 i ∧ s7 = .slice a2 n2 c2 ∧ Hid (L2.length = n2) ∧ Hid (L2.Pairwise (· < ·)) ∧ Hid (∀ y, y ∈ L2 ↔ hitL L (gi l k) m bs i 0 y) ∧ Hid (Ints wr a2 n2 c2 L2) ∧ Ext wr0 wr)
        case atStart => exact ⟨0, [], _, 0, 0, Nat.zero_le _, rfl, rfl, rfl, rfl, by simp [Hid], Lib.hid (fun y => ⟨(fun h => by cases h), fun h => (hitL_zero h).elim⟩), HN0, (by repeat (first | (with_reducible exact Ext.refl _) | (with_reducible assumption) | (with_reducible refine Ext.drewN ?_ _) | (with_reducible refine Ext.drew ?_) | (with_reducible refine Ext.alloc ?_ _) | ((with_reducible refine Ext.setCell ?_ ?_ _); rotate_left; focus (first | (simp; done) | (simp; omega) | omega)) | (with_reducible refine Ext.trans ?_ (by with_reducible assumption))))⟩
        case round =>
          obtain ⟨i, L2, a2, n2, c2, hi, rfl, rfl, rfl, HLi2, HRi2, HH, HN, hxn⟩ := hrel
          obtain ⟨wr1, rfl⟩ : ∃ x, x = wr := ⟨_, rfl⟩
          have hxw1 : Ext w wr1 := hxwr.trans hxn
          have hxb1 : Ext wB wr1 := hxr.trans hxn
          by_cases him : i < nl
          · have hbi := HBd.out i him
            go_wp2_with fail
            go_loopw [7, 9, 10] (fun s7 s9 _ wr => ∃ (d : Nat) (L3 : List Int) (a3 : Option Addr) (n3 c3 : Nat), d ≤ bs ∧ s9 = .int .i64 d ∧ s7 = .slice a3 n3 c3 ∧ Hid (L3.length = n3) ∧ Hid (L3.Pairwise (· < ·)) ∧ Hid (∀ y, y ∈ L3 ↔ hitL L (gi l k) m bs i d y) ∧ Hid (Ints wr a3 n3 c3 L3) ∧ Ext wr0 wr) (fun _ s9 _ _ => bs - (intOf s9).toNat)
            case atStart => exact ⟨0, L2, a2, n2, c2, Nat.zero_le _, rfl, rfl, HLi2, HRi2, HH, HN, hxn⟩
            case round =>
              obtain ⟨d, L3, a3, n3, c3, hd, rfl, rfl, HL3, HR3, HH3, HN3, hxn2⟩ := hrel
              have hxw2 : Ext w wr := hxwr.trans hxn2
              have hxb2 : Ext wB wr := hxr.trans hxn2
              have h3m : n3 ≤ m := by
                rw [← HL3.out]
                refine rise_len2 HR3.out fun y hy => ?_
                obtain ⟨a, e, rfl, _⟩ := (HH3.out y).1 hy
                exact ⟨Int.emod_nonneg _ (by omega), Int.emod_lt_of_pos _ (by omega)⟩
              by_cases hdb : d < bs
              · have hxd := mul_bd (a := 36) (b := 36) hxk.1 hxk.2 (show (0 : Int) ≤ d by omega) (show (d : Int) ≤ 36 by omega)
                obtain ⟨b3, o3, i3, e3⟩ := (HI.out.ext hxn2).at 22 2 und_int64s cell_int64 i him .i64
                have hgL : L.getD i 0 = gi L i := rfl
                rw [hgL] at e3
                have HPu := Lib.hid (fun W (h : Ext wr W) => spec_put a3 n3 c3 L3 ((gi L i + gi l k * d) % m) W (HN3.out.ext h) (by omega))
                have HS := Lib.hid (show ∀ y, y ∈ putL ((gi L i + gi l k * d) % m) L3 ↔ hitL L (gi l k) m bs i (d + 1) y from fun y => by rw [putL_mem, HH3.out, hitL_step])
                clear hgL
                go_wp2
                go_quiet (fail)
                go_wp2_with ((with_reducible refine (HPu.out _ (by repeat (first | (with_reducible exact Ext.refl _) | (with_reducible assumption) | (with_reducible refine Ext.drewN ?_ _) | (with_reducible refine Ext.drew ?_) | (with_reducible refine Ext.alloc ?_ _) | ((with_reducible refine Ext.setCell ?_ ?_ _); rotate_left; focus (first | (simp; done) | (simp; omega) | omega)) | (with_reducible refine Ext.trans ?_ (by with_reducible assumption))))).mono ?_); rintro e w5 ⟨a5, c5, rfl, ho5, hy5⟩; have hx5 : Ext wr w5 := Ext.trans (by repeat (first | (with_reducible exact Ext.refl _) | (with_reducible assumption) | (with_reducible refine Ext.drewN ?_ _) | (with_reducible refine Ext.drew ?_) | (with_reducible refine Ext.alloc ?_ _) | ((with_reducible refine Ext.setCell ?_ ?_ _); rotate_left; focus (first | (simp; done) | (simp; omega) | omega)) | (with_reducible refine Ext.trans ?_ (by with_reducible assumption)))) hy5)
                exact ⟨⟨d + 1, _, a5, _, c5, hdb, by go_num, rfl, Lib.hid (by rw [I_len]), Lib.hid (putL_rise HR3.out), HS, Lib.hid ho5.ints, hxn2.trans hx5⟩, by simp [intOf]; omega⟩
              · obtain rfl : bs = d := by omega
                have HS := Lib.hid (fun y => (HH3.out y).trans (hitL_next (L := L) (x := gi l k) (m := m) (i := i) (bs := bs)).symm)
                go_wp2_with fail
                go_roundg (nl - (i + 1))
                case measure => omega
                case rel => exact ⟨i + 1, L3, a3, n3, c3, him, rfl, by go_num, rfl, HL3, HR3, HS, HN3, hxn2⟩
          · obtain rfl : nl = i := by omega
            have HG1 := Lib.hid (fun y => (HH.out y).trans (HGn.out y))
            go_wp2_with fail
            go_roundg (n - (k + 1))
            case measure => omega
            case rel => exact ⟨k + 1, L2, a2, n2, c2, hkn, rfl, by go_num, rfl, HLi2, HRi2, HG1, HN, hxb1⟩
    · obtain rfl : n = k := by omega
      have hxp := HSm.out p hpn
      have hgp : gi l p = l.getD p 0 := rfl
      rw [← hgp] at hxp
      have HYes := Lib.hid (show (∀ i : Nat, i < nl → cntD m target (gi l p) (gi L i) bs = 1) → icpB ⟨bs, m, target, l⟩ p = true from fun h => HT.out fun r hr => by
        rw [HL.out] at hr
        obtain ⟨i, hi, rfl⟩ := List.mem_iff_getElem.1 ((HG.out r).2 hr)
        rw [← gi_get hi]
        exact h i (by rw [← HLl.out]; exact hi))
      have HNo := Lib.hid (show ∀ i : Nat, i < nl → ¬ cntD m target (gi l p) (gi L i) bs = 1 → icpB ⟨bs, m, target, l⟩ p = false from fun i hi h2 => HF.out fun h => h2 (h _ (by rw [HL.out]; exact (HG.out _).1 (gi_mem (by rw [HLl.out]; exact hi)))))
      have HCb := Lib.hid (fun r d => cntD_bd m target (gi l p) r d)
      have HCs := Lib.hid (fun r (d : Nat) => show cntD m target (gi l p) r (d + 1) = cntD m target (gi l p) r d + (if (r + gi l p * d) % m = target then 1 else 0) from rfl)
      clear hgp
      go_wp2_with fail
      go_loopg [11, 12, 13] nl (fun gk s11 _ _ wr => ∃ i : Nat, i ≤ nl ∧ gk = nl - i ∧ s11 = .int .i64 i ∧ Hid (∀ j : Nat, j < i → cntD m target (gi l p) (gi L j) bs = 1) ∧ Ext wr0 wr)
      case atStart => exact ⟨0, Nat.zero_le _, rfl, rfl, Lib.hid (fun i hi => by omega), Ext.refl _⟩
      case round =>
        obtain ⟨i, hi, rfl, rfl, HA, hxn⟩ := hrel
        obtain ⟨wr1, rfl⟩ : ∃ x, x = wr := ⟨_, rfl⟩
        have hxw1 : Ext w wr1 := hxwr.trans hxn
        have hxb1 : Ext wB wr1 := hxr.trans hxn
        by_cases him : i < nl
        · have hbi := HBd.out i him
          go_wp2_with fail
          go_loopw [12, 13] (fun s12 s13 wr => ∃ (d : Nat) (z : Int), d ≤ bs ∧ s13 = .int .i64 d ∧ s12 = .int .i64 z ∧ Hid (z = cntD m target (gi l p) (gi L i) d) ∧ Ext wr0 wr) (fun _ s13 _ => bs - (intOf s13).toNat)
          case atStart => exact ⟨0, 0, Nat.zero_le _, rfl, rfl, rfl, hxn⟩
          case round =>
            obtain ⟨d, z, hd, rfl, rfl, HZ, hxn2⟩ := hrel
            have hxw2 : Ext w wr := hxwr.trans hxn2
            have hxb2 : Ext wB wr := hxr.trans hxn2
            have hzb := HCb.out (gi L i) d
            rw [← HZ.out] at hzb
            by_cases hdb : d < bs
            · have hxd := mul_bd (a := 36) (b := 36) hxp.1 hxp.2 (show (0 : Int) ≤ d by omega) (show (d : Int) ≤ 36 by omega)
              obtain ⟨b3, o3, i3, e3⟩ := (HI.out.ext hxn2).at 22 2 und_int64s cell_int64 i him .i64
              have hgL : L.getD i 0 = gi L i := rfl
              rw [hgL] at e3
              clear hgL
              have HCn := Lib.hid (HCs.out (gi L i) d)
              rw [← HZ.out] at HCn
              by_cases hc : (gi L i + gi l p * d) % m = target
              · have HC1 := Lib.hid (HCn.out.trans (by rw [if_pos hc]))
                have hcb : ((gi L i + gi l p * d) % m == target) = true := by simpa using hc
                clear hc
                go_wp2
                go_quiet (fail)
                go_wp2
                exact ⟨⟨d + 1, z + 1, hdb, by go_num, rfl, HC1.out.symm, (by repeat (first | (with_reducible exact Ext.refl _) | (with_reducible assumption) | (with_reducible refine Ext.drewN ?_ _) | (with_reducible refine Ext.drew ?_) | (with_reducible refine Ext.alloc ?_ _) | ((with_reducible refine Ext.setCell ?_ ?_ _); rotate_left; focus (first | (simp; done) | (simp; omega) | omega)) | (with_reducible refine Ext.trans ?_ (by with_reducible assumption))))⟩, by simp [intOf]; omega⟩
              · have HC1 := Lib.hid (HCn.out.trans (show _ = z by rw [if_neg hc, Int.add_zero]))
                have hcb : ((gi L i + gi l p * d) % m == target) = false := by simpa using hc
                clear hc
                go_wp2
                go_quiet (fail)
                go_wp2
                exact ⟨⟨d + 1, z, hdb, by go_num, rfl, HC1.out.symm, (by repeat (first | (with_reducible exact Ext.refl _) | (with_reducible assumption) | (with_reducible refine Ext.drewN ?_ _) | (with_reducible refine Ext.drew ?_) | (with_reducible refine Ext.alloc ?_ _) | ((with_reducible refine Ext.setCell ?_ ?_ _); rotate_left; focus (first | (simp; done) | (simp; omega) | omega)) | (with_reducible refine Ext.trans ?_ (by with_reducible assumption))))⟩, by simp [intOf]; omega⟩
            · obtain rfl : bs = d := by omega
              by_cases hz1 : z = 1
              · have HA2 := Lib.hid (show ∀ j : Nat, j < i + 1 → cntD m target (gi l p) (gi L j) bs = 1 from fun j hj => by
                  rcases Nat.lt_or_ge j i with h1 | h1
                  · exact HA.out j h1
                  · obtain rfl : j = i := by omega
                    rw [← HZ.out]; exact hz1)
                subst hz1
                go_wp2_with fail
                go_roundg (nl - (i + 1))
                case measure => omega
                case rel => exact ⟨i + 1, him, rfl, by go_num, HA2, hxn2⟩
              · have HRt := Lib.hid (HNo.out i him (by rw [← HZ.out]; exact hz1))
                have hzb1 : (z != 1) = true := by simpa using hz1
                clear hz1
                go_wp2_with fail
                go_ret
                exact ⟨rb HRt.out.symm, hxw2⟩
        · obtain rfl : nl = i := by omega
          have HRt := Lib.hid (HYes.out HA.out)
          go_wp2_with fail
          go_ret
          exact ⟨rb HRt.out.symm, hxw1⟩
end Go.Proofs.Ytlpbflmgkopklaa
