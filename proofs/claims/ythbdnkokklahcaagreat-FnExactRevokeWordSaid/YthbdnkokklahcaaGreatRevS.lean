/- Walks: RevokeWord of the reference. -/
import Derived.Test.YthbdnkokklahcaaGreatRev
namespace Go.Proofs.YthbdnkokklahcaaGreat
set_option maxRecDepth 100000
open Go.RowKit

/-- a number put to its place among rising ones, once -/
def putL (x : Int) : List Int → List Int
  | [] => [x]
  | y :: t => if x < y then x :: y :: t else if x = y then y :: t else y :: putL x t
theorem putL_mem {x y : Int} : ∀ {l : List Int}, y ∈ putL x l ↔ y = x ∨ y ∈ l
  | [] => by simp [putL]
  | z :: t => by
    rw [putL]
    split
    · simp
    · split
      · rename_i h; subst h; simp
      · have := putL_mem (x := x) (y := y) (l := t)
        simp only [List.mem_cons, this]
        constructor
        · rintro (h | h | h) <;> simp [h]
        · rintro (h | h | h) <;> simp [h]
theorem putL_rise {x : Int} : ∀ {l : List Int}, l.Pairwise (· < ·) → (putL x l).Pairwise (· < ·)
  | [], _ => by simp [putL]
  | z :: t, h => by
    rw [List.pairwise_cons] at h
    rw [putL]
    split
    · rename_i hx
      rw [List.pairwise_cons, List.pairwise_cons]
      refine ⟨fun y hy => ?_, h⟩
      rcases List.mem_cons.1 hy with rfl | hy
      · exact hx
      · have := h.1 y hy; omega
    · split
      · rw [List.pairwise_cons]; exact h
      · rw [List.pairwise_cons]
        refine ⟨fun y hy => ?_, putL_rise h.2⟩
        rcases putL_mem.1 hy with rfl | hy
        · omega
        · exact h.1 y hy
theorem putL_len (x : Int) : ∀ l : List Int, (putL x l).length ≤ l.length + 1
  | [] => by simp [putL]
  | z :: t => by
    rw [putL]
    have := putL_len x t
    split
    · simp
    · split <;> simp <;> omega
/-- one number more -/
def pst (x : Int) (s : Bool × List Int) (y : Int) : Bool × List Int :=
  if (!s.1 && decide (x ≤ y)) = true then (true, if x < y then s.2 ++ [x] ++ [y] else s.2 ++ [y]) else (s.1, s.2 ++ [y])
theorem pst_true {x : Int} : ∀ {l : List Int} {o : List Int}, l.foldl (pst x) (true, o) = (true, o ++ l)
  | [], o => by simp
  | y :: t, o => by
    rw [List.foldl_cons, show pst x (true, o) y = (true, o ++ [y]) by simp [pst], pst_true]
    simp
theorem pst_put {x : Int} : ∀ {l : List Int} {o : List Int}, (if (l.foldl (pst x) (false, o)).1 = true then (l.foldl (pst x) (false, o)).2 else (l.foldl (pst x) (false, o)).2 ++ [x]) = o ++ putL x l
  | [], o => by simp [putL]
  | y :: t, o => by
    rw [List.foldl_cons, putL]
    by_cases h : x ≤ y
    · rw [show pst x (false, o) y = (true, if x < y then o ++ [x] ++ [y] else o ++ [y]) by simp [pst, h], pst_true, if_pos rfl]
      by_cases h2 : x < y
      · simp [h2]
      · have : x = y := by omega
        simp [this]
    · rw [show pst x (false, o) y = (false, o ++ [y]) by simp [pst, h], pst_put, if_neg (by omega), if_neg (by omega)]
      simp
theorem rise_len : ∀ {l : List Int} {lo hi : Int}, l.Pairwise (· < ·) → (∀ x ∈ l, lo ≤ x ∧ x < hi) → (l.length : Int) ≤ hi - lo ∨ l = []
  | [], _, _, _, _ => .inr rfl
  | x :: t, lo, hi, h, hb => by
    left
    rw [List.pairwise_cons] at h
    have hx := hb x (List.mem_cons_self ..)
    rcases rise_len (lo := x + 1) (hi := hi) h.2 (fun y hy => ⟨by have := h.1 y hy; omega, (hb y (List.mem_cons_of_mem _ hy)).2⟩) with h1 | rfl
    · simp only [List.length_cons]; omega
    · simp only [List.length_cons, List.length_nil]; omega
theorem rise_len2 {l : List Int} {m : Nat} (h : l.Pairwise (· < ·)) (hb : ∀ x ∈ l, 0 ≤ x ∧ x < (m : Int)) : l.length ≤ m := by
  rcases rise_len h hb with h1 | rfl
  · omega
  · simp
theorem own_one (w : World) (E : TypeId) (v : Value) : Own (w.alloc (.cells #[v] E)) w.heap.size E (some ⟨w.heap.size, 0, none⟩) 1 1 [v] :=
  World.ownsRow_lit (e := E) (size := 1) w #[v] 1 (Nat.le_refl _) (by decide) rfl
set_option maxHeartbeats 4000000 in
theorem spec_put (a : Option Addr) (n c : Nat) (l : List Int) (x : Int) (w : World) (hv : Ints w a n c l) (hn : n ≤ 1048576) :
    Calls Tryz.prog 18 #[.slice a n c, .int .i64 x] w (RetOwn 2 (I (putL x l)) w) := by
  obtain ⟨b, off, hix, hcell⟩ := hv.ix (P := Tryz.prog) 23 2 und_int64s cell_int64
  have HL := Lib.hid hv.len
  have HP := Lib.hid (pst_put (x := x) (l := l) (o := []))
  clear hv
  go_enter Tryz.func18, Tryz.ntmps18
  go_wp2
  go_loopw [5, 6, 7] (fun s5 s6 s7 wr => ∃ (k : Nat) (dn : Bool) (out : List Int) (ad : Option Addr) (no ca : Nat), k ≤ n ∧ s7 = .int .i64 k ∧ s6 = .bool dn ∧ s5 = .slice ad no ca ∧ no ≤ k + 1 ∧ Hid (out.length = no) ∧ (dn = false → no ≤ k) ∧ Hid ((l.take k).foldl (pst x) (false, []) = (dn, out)) ∧ Hid (Own wr w.heap.size 2 ad no ca (I out)) ∧ Ext w wr) (fun _ _ s7 _ => n - (intOf s7).toNat)
  case atStart => exact ⟨0, false, [], _, _, _, Nat.zero_le _, rfl, rfl, rfl, Nat.zero_le _, rfl, fun _ => Nat.le_refl _, rfl, Own.lit0 w _, (by repeat (first | (with_reducible exact Ext.refl _) | (with_reducible refine Ext.drewN ?_ _) | (with_reducible refine Ext.drew ?_) | (with_reducible refine Ext.alloc ?_ _) | ((with_reducible refine Ext.setCell ?_ ?_ _); rotate_left; focus (first | (simp; done) | (simp; omega) | omega)) | assumption | (with_reducible refine Ext.trans ?_ (by assumption))))⟩
  case round =>
    obtain ⟨k, dn, out, ad, no, ca, hk, rfl, rfl, rfl, hno, Hlo, hnd, HF, HO, hx⟩ := hrel
    by_cases hkn : k < n
    · have HF1 := Lib.hid (show (l.take (k + 1)).foldl (pst x) (false, []) = pst x (dn, out) (gi l k) by rw [take_gi (by rw [HL.out]; exact hkn), List.foldl_append, HF.out]; rfl)
      cases dn
      · by_cases hxy : x ≤ gi l k
        · by_cases hlt : x < gi l k
          · have HF2 := Lib.hid (HF1.out.trans (show _ = (true, out ++ [x] ++ [gi l k]) by simp [pst, hxy, hlt]))
            have hn1 := hnd rfl
            have HI2 := Lib.hid (show I (out ++ [x] ++ [gi l k]) = I out ++ [.int .i64 x] ++ [.int .i64 (gi l k)] by rw [I_append, I_append]; rfl)
            have hox := HO.out
            clear hnd
            go_wp2_with (first | (at_builtin; refine law_append1 _ rfl _ _ 23 rfl 2 (.int .i64 0) 8 und_int64s info_int64 rfl w.heap.size ad no ca _ _ rfl rfl rfl hox (hx).le (by omega) (by omega) ?_; intro ad' c' w1 ho1 hb1 hg1; have hxw1 : Ext w w1 := Ext.below (hx) hb1) | (at_builtin; refine law_append1 _ rfl _ _ 23 rfl 2 (.int .i64 0) 8 und_int64s info_int64 rfl w.heap.size ad' (no + 1) c' _ _ rfl rfl rfl ho1 (hxw1).le (by omega) (by omega) ?_; intro adb' cb' wb1 hob1 hbb1 hgb1; have hxwb1 : Ext w wb1 := Ext.below (hxw1) hbb1))
            exact ⟨⟨k + 1, true, out ++ [x] ++ [gi l k], adb', no + 1 + 1, cb', hkn, by go_num, rfl, rfl, by omega, by rw [Hid, List.length_append, List.length_append, Hlo.out]; rfl, (fun h => by cases h), HF2, by rw [HI2.out]; exact hob1, hxwb1⟩, by simp [intOf]; omega⟩
          · have HF2 := Lib.hid (HF1.out.trans (show _ = (true, out ++ [gi l k]) by simp [pst, hxy, hlt]))
            have hn1 := hnd rfl
            clear hnd
            go_wp2_with (at_builtin; refine law_append1 _ rfl _ _ 23 rfl 2 (.int .i64 0) 8 und_int64s info_int64 rfl w.heap.size ad no ca _ _ rfl rfl rfl HO.out (hx).le (by omega) (by omega) ?_; intro ad' c' w1 ho1 hb1 hg1; have hxw1 : Ext w w1 := Ext.below (hx) hb1)
            exact ⟨⟨k + 1, true, out ++ [gi l k], ad', no + 1, c', hkn, by go_num, rfl, rfl, by omega, by rw [Hid, List.length_append, Hlo.out]; rfl, (fun h => by cases h), HF2, by rw [I_append]; exact ho1, hxw1⟩, by simp [intOf]; omega⟩
        · have HF2 := Lib.hid (HF1.out.trans (show _ = (false, out ++ [gi l k]) by simp [pst, hxy]))
          have hn1 := hnd rfl
          clear hnd
          go_wp2_with (at_builtin; refine law_append1 _ rfl _ _ 23 rfl 2 (.int .i64 0) 8 und_int64s info_int64 rfl w.heap.size ad no ca _ _ rfl rfl rfl HO.out (hx).le (by omega) (by omega) ?_; intro ad' c' w1 ho1 hb1 hg1; have hxw1 : Ext w w1 := Ext.below (hx) hb1)
          exact ⟨⟨k + 1, false, out ++ [gi l k], ad', no + 1, c', hkn, by go_num, rfl, rfl, by omega, by rw [Hid, List.length_append, Hlo.out]; rfl, fun _ => by omega, HF2, by rw [I_append]; exact ho1, hxw1⟩, by simp [intOf]; omega⟩
      · have HF2 := Lib.hid (HF1.out.trans (show _ = (true, out ++ [gi l k]) by simp [pst]))
        clear hnd
        go_wp2_with (at_builtin; refine law_append1 _ rfl _ _ 23 rfl 2 (.int .i64 0) 8 und_int64s info_int64 rfl w.heap.size ad no ca _ _ rfl rfl rfl HO.out (hx).le (by omega) (by omega) ?_; intro ad' c' w1 ho1 hb1 hg1; have hxw1 : Ext w w1 := Ext.below (hx) hb1)
        exact ⟨⟨k + 1, true, out ++ [gi l k], ad', no + 1, c', hkn, by go_num, rfl, rfl, by omega, by rw [Hid, List.length_append, Hlo.out]; rfl, (fun h => by cases h), HF2, by rw [I_append]; exact ho1, hxw1⟩, by simp [intOf]; omega⟩
    · obtain rfl : n = k := by omega
      rw [take_full (by rw [HL.out]; exact Nat.le_refl _)] at HF
      rw [HF.out] at HP
      cases dn
      · have HR := Lib.hid (show putL x l = out ++ [x] from by have := HP.out; simpa using this.symm)
        have hn1 := hnd rfl
        clear hnd
        go_wp2_with (at_builtin; refine law_append1 _ rfl _ _ 23 rfl 2 (.int .i64 0) 8 und_int64s info_int64 rfl w.heap.size ad no ca _ _ rfl rfl rfl HO.out (hx).le (by omega) (by omega) ?_; intro ad' c' w1 ho1 hb1 hg1; have hxw1 : Ext w w1 := Ext.below (hx) hb1)
        go_ret
        rw [HR.out]
        exact RetOwn.mk (by rw [I_append]; exact ho1) (by rw [List.length_append, Hlo.out]; rfl) hxw1
      · have HR := Lib.hid (show putL x l = out from by have := HP.out; simpa using this.symm)
        clear hnd
        go_wp2_with fail
        go_ret
        rw [HR.out]
        exact RetOwn.mk HO.out Hlo.out hx
theorem putL_putI {x : Int} : ∀ {l : List Int}, x ∉ l → putL x l = putI l x
  | [], _ => rfl
  | y :: t, h => by
    have hne : x ≠ y := fun e => h (e ▸ List.mem_cons_self ..)
    rw [putL, putI]
    by_cases hxy : x < y
    · rw [if_pos hxy, if_neg (by omega)]
    · rw [if_neg hxy, if_neg hne, if_pos (by omega), putL_putI (fun h' => h (List.mem_cons_of_mem _ h'))]
theorem putI_len (x : Int) : ∀ l : List Int, (putI l x).length = l.length + 1
  | [] => rfl
  | y :: t => by
    rw [putI]
    split
    · simp [putI_len x t]
    · simp
set_option maxRecDepth 20000 in
set_option maxHeartbeats 8000000 in
theorem spec_Revoke (D : Rg) (a : Option Addr) (n c : Nat) (b : Option Addr) (m d : Nat) (ia : Option Addr) (im ic : Nat) (ra : Option Addr) (rm rc : Nat) (s : ByteArray) (w : World) (hv : RgIn w D a n c b m d ia im ic ra rm rc) : Calls Tryz.prog 5 #[.agg #[.int .i64 D.ch.base, .int .i64 D.ch.states, .int .i64 D.ch.start, .int .i64 D.ch.fin, .slice a n c, .slice b m d, .int .i64 D.apart, .slice ia im ic, .slice ra rm rc], .string s] w (RetRgK (revRes D s) (revOk D s) w) := by
  obtain ⟨wb, hwb⟩ : ∃ wb, wb = (w.alloc (.cells #[.int .i64 D.ch.base, .int .i64 D.ch.states, .int .i64 D.ch.start, .int .i64 D.ch.fin, .slice a n c, .slice b m d, .int .i64 D.apart, .slice ia im ic, .slice ra rm rc] 32)).alloc (.cells #[.int .i64 0, .int .i64 0, .int .i64 0, .int .i64 0, .slice none 0 0, .slice none 0 0, .int .i64 0, .slice none 0 0, .slice none 0 0] 32) := ⟨_, rfl⟩
  have hxb : Ext w wb := by rw [hwb]; exact (by repeat (first | (with_reducible exact Ext.refl _) | (with_reducible refine Ext.drewN ?_ _) | (with_reducible refine Ext.drew ?_) | (with_reducible refine Ext.alloc ?_ _) | ((with_reducible refine Ext.setCell ?_ ?_ _); rotate_left; focus (first | (simp; done) | (simp; omega) | omega)) | assumption | (with_reducible refine Ext.trans ?_ (by assumption))))
  have hbs : wb.heap.size = w.heap.size + 2 := by rw [hwb]; simp
  have HAt := Lib.hid (show RgAt wb w.heap.size D a n c b m d ia im ic ra rm rc by rw [hwb]; exact (hv.box 32).ext ((Ext.refl _).alloc _))
  have HN := Lib.hid (hv.ext hxb)
  have HZ := Lib.hid (show SAt wb (w.heap.size + 1) 32 #[.int .i64 0, .int .i64 0, .int .i64 0, .int .i64 0, .slice none 0 0, .slice none 0 0, .int .i64 0, .slice none 0 0, .slice none 0 0] by rw [hwb]; exact SAt.new' _ _ _ (by simp))
  have him := hv.hi
  have hrm := hv.hr
  obtain ⟨⟨k0, k1, k2, k3, k4, k5, _, _⟩, k6, k7, k8, _, _⟩ := HAt.out
  have HVal := Lib.hid (fun W (h : Ext wb W) => spec_l10Is D w.heap.size a n c b m d ia im ic ra rm rc W (HAt.out.ext h) (HN.out.ext h))
  obtain ⟨ix, hix⟩ : ∃ ix, ix = atRg D s := ⟨_, rfl⟩
  have HIx := Lib.hid (fun W (h : Ext wb W) => spec_l10At D w.heap.size a n c b m d ia im ic ra rm rc s W (HAt.out.ext h) him)
  have HCt := Lib.hid (fun W (h : Ext wb W) => spec_has ra rm rc D.revoked ix W (Ints.ext HN.out.rs h) (by omega))
  rw [← hix] at HIx
  have HRH := Lib.hid (show (D.revoked.any fun y => y == ix) = revHas D ix from rfl)
  rw [HRH.out] at HCt
  have HIxe := Lib.hid hix
  have HWb := Lib.hid hwb
  have hxbb : Ext wb wb := Ext.refl _
  clear hv hwb hix HRH
  have zfail : ∀ Wf, Ext w Wf → revOk D s = false → RetRgK (revRes D s) (revOk D s) w (.returned (.tuple #[.agg #[.int .i64 0, .int .i64 0, .int .i64 0, .int .i64 0, .slice none 0 0, .slice none 0 0, .int .i64 0, .slice none 0 0, .slice none 0 0], .bool false])) Wf := fun Wf hf hO => by
    rw [revRes_no hO, hO]
    exact ⟨none, 0, 0, none, 0, 0, none, 0, 0, none, 0, 0, rfl, fun W _ => zero_in W, hf⟩
  have HZF := Lib.hid zfail
  clear zfail
  cases hval : validRg D
  · have HO := Lib.hid (show revOk D s = false by rw [revOk, hval]; rfl)
    rw [hval] at HVal
    clear hval
    go_enter Tryz.func5, Tryz.ntmps5
    go_wp2_with fail
    rw [← HWb.out]
    refine (HVal.out _ (by repeat (first | (with_reducible exact Ext.refl _) | (with_reducible assumption) | (with_reducible refine Ext.drewN ?_ _) | (with_reducible refine Ext.drew ?_) | (with_reducible refine Ext.alloc ?_ _) | ((with_reducible refine Ext.setCell ?_ ?_ _); rotate_left; focus (first | (simp; done) | (simp; omega) | omega)) | (with_reducible refine Ext.trans ?_ (by with_reducible assumption))))).mono ?_
    rintro e w1 ⟨rfl, hx1⟩
    have hl := hx1
    have hxw := hxb.trans hx1
    have hz1 := HZ.out.ext hx1
    have y0 := hz1.cell 0 (by simp)
    have y1 := hz1.cell 1 (by simp)
    have y2 := hz1.cell 2 (by simp)
    have y3 := hz1.cell 3 (by simp)
    have y4 := hz1.cell 4 (by simp)
    have y5 := hz1.cell 5 (by simp)
    have y6 := hz1.cell 6 (by simp)
    have y7 := hz1.cell 7 (by simp)
    have y8 := hz1.cell 8 (by simp)
    try simp only [List.getElem_toArray, List.getElem_cons_succ, List.getElem_cons_zero] at y0 y1 y2 y3 y4 y5 y6 y7 y8
    have yf := fun i => hz1.frozen i
    have yl := hz1.lt
    go_wp2_with fail
    refine bodyPost_ret (v := .tuple #[.agg #[.int .i64 0, .int .i64 0, .int .i64 0, .int .i64 0, .slice none 0 0, .slice none 0 0, .int .i64 0, .slice none 0 0, .slice none 0 0], .bool false]) ?_ rfl ?_
    · simp [results, Tryz.results5, go_sem, y0, y1, y2, y3, y4, y5, y6, y7, y8]
    · exact HZF.out _ (by repeat (first | (with_reducible exact Ext.refl _) | (with_reducible assumption) | (with_reducible refine Ext.drewN ?_ _) | (with_reducible refine Ext.drew ?_) | (with_reducible refine Ext.alloc ?_ _) | ((with_reducible refine Ext.setCell ?_ ?_ _); rotate_left; focus (first | (simp; done) | (simp; omega) | omega)) | (with_reducible refine Ext.trans ?_ (by with_reducible assumption)))) HO.out
  have HOk := Lib.hid (validRg_ok hval)
  have HVl := Lib.hid hval
  rw [hval] at HVal
  clear hval
  by_cases hneg : ix < 0
  · have HO := Lib.hid (show revOk D s = false by rw [revOk, ← HIxe.out, decide_eq_false (by omega)]; simp)
    have hd : decide (ix < 0) = true := decide_eq_true hneg
    go_enter Tryz.func5, Tryz.ntmps5
    go_wp2_with fail
    rw [← HWb.out]
    refine (HVal.out _ (by repeat (first | (with_reducible exact Ext.refl _) | (with_reducible assumption) | (with_reducible refine Ext.drewN ?_ _) | (with_reducible refine Ext.drew ?_) | (with_reducible refine Ext.alloc ?_ _) | ((with_reducible refine Ext.setCell ?_ ?_ _); rotate_left; focus (first | (simp; done) | (simp; omega) | omega)) | (with_reducible refine Ext.trans ?_ (by with_reducible assumption))))).mono ?_
    rintro e w0 ⟨rfl, hx0⟩
    go_wp2_with fail
    refine (HIx.out _ hx0).mono ?_
    rintro e w1 ⟨rfl, hy1⟩
    have hx1 : Ext wb w1 := hx0.trans hy1
    clear hy1 hx0
    have hl := hx1
    have hxw := hxb.trans hx1
    have hz1 := HZ.out.ext hx1
    have y0 := hz1.cell 0 (by simp)
    have y1 := hz1.cell 1 (by simp)
    have y2 := hz1.cell 2 (by simp)
    have y3 := hz1.cell 3 (by simp)
    have y4 := hz1.cell 4 (by simp)
    have y5 := hz1.cell 5 (by simp)
    have y6 := hz1.cell 6 (by simp)
    have y7 := hz1.cell 7 (by simp)
    have y8 := hz1.cell 8 (by simp)
    try simp only [List.getElem_toArray, List.getElem_cons_succ, List.getElem_cons_zero] at y0 y1 y2 y3 y4 y5 y6 y7 y8
    have yf := fun i => hz1.frozen i
    have yl := hz1.lt
    go_wp2_with fail
    refine bodyPost_ret (v := .tuple #[.agg #[.int .i64 0, .int .i64 0, .int .i64 0, .int .i64 0, .slice none 0 0, .slice none 0 0, .int .i64 0, .slice none 0 0, .slice none 0 0], .bool false]) ?_ rfl ?_
    · simp [results, Tryz.results5, go_sem, y0, y1, y2, y3, y4, y5, y6, y7, y8]
    · exact HZF.out _ (by repeat (first | (with_reducible exact Ext.refl _) | (with_reducible assumption) | (with_reducible refine Ext.drewN ?_ _) | (with_reducible refine Ext.drew ?_) | (with_reducible refine Ext.alloc ?_ _) | ((with_reducible refine Ext.setCell ?_ ?_ _); rotate_left; focus (first | (simp; done) | (simp; omega) | omega)) | (with_reducible refine Ext.trans ?_ (by with_reducible assumption)))) HO.out
  have hd : decide (ix < 0) = false := decide_eq_false hneg
  obtain ⟨i, rfl⟩ := Int.eq_ofNat_of_zero_le (show 0 ≤ ix by omega)
  clear hneg
  cases hrh : revHas D (i : Int)
  · rw [hrh] at HCt
    have HO := Lib.hid (show revOk D s = true by rw [revOk, ← HIxe.out, hrh, HVl.out, decide_eq_true (by omega)]; rfl)
    have HR := Lib.hid (revRes_yes HO.out)
    have hni : (i : Int) ∉ D.revoked := fun h => by
      have : revHas D (i : Int) = true := List.any_eq_true.2 ⟨_, h, by simp⟩
      rw [hrh] at this; cases this
    have HPI := Lib.hid (putL_putI hni)
    clear hrh hni
    go_enter Tryz.func5, Tryz.ntmps5
    go_wp2_with fail
    rw [← HWb.out]
    refine (HVal.out _ (by repeat (first | (with_reducible exact Ext.refl _) | (with_reducible assumption) | (with_reducible refine Ext.drewN ?_ _) | (with_reducible refine Ext.drew ?_) | (with_reducible refine Ext.alloc ?_ _) | ((with_reducible refine Ext.setCell ?_ ?_ _); rotate_left; focus (first | (simp; done) | (simp; omega) | omega)) | (with_reducible refine Ext.trans ?_ (by with_reducible assumption))))).mono ?_
    rintro e w0 ⟨rfl, hx0⟩
    go_upto_region 7 with (first | (go_at_call 15; (with_reducible refine (HIx.out _ (by repeat (first | (with_reducible exact Ext.refl _) | (with_reducible assumption) | (with_reducible refine Ext.drewN ?_ _) | (with_reducible refine Ext.drew ?_) | (with_reducible refine Ext.alloc ?_ _) | ((with_reducible refine Ext.setCell ?_ ?_ _); rotate_left; focus (first | (simp; done) | (simp; omega) | omega)) | (with_reducible refine Ext.trans ?_ (by with_reducible assumption))))).mono ?_); rintro e w1 ⟨rfl, hy1⟩; have hx1 : Ext wb w1 := Ext.trans (by repeat (first | (with_reducible exact Ext.refl _) | (with_reducible assumption) | (with_reducible refine Ext.drewN ?_ _) | (with_reducible refine Ext.drew ?_) | (with_reducible refine Ext.alloc ?_ _) | ((with_reducible refine Ext.setCell ?_ ?_ _); rotate_left; focus (first | (simp; done) | (simp; omega) | omega)) | (with_reducible refine Ext.trans ?_ (by with_reducible assumption)))) hy1; clear hy1) | (go_at_call 16; (with_reducible refine (HCt.out _ (by repeat (first | (with_reducible exact Ext.refl _) | (with_reducible assumption) | (with_reducible refine Ext.drewN ?_ _) | (with_reducible refine Ext.drew ?_) | (with_reducible refine Ext.alloc ?_ _) | ((with_reducible refine Ext.setCell ?_ ?_ _); rotate_left; focus (first | (simp; done) | (simp; omega) | omega)) | (with_reducible refine Ext.trans ?_ (by with_reducible assumption))))).mono ?_); rintro e w2 ⟨rfl, rfl⟩) | (go_at_call 17; (with_reducible refine (spec_ownReg D w.heap.size a n c b m d ia im ic ra rm rc _ (HAt.out.ext (by repeat (first | (with_reducible exact Ext.refl _) | (with_reducible assumption) | (with_reducible refine Ext.drewN ?_ _) | (with_reducible refine Ext.drew ?_) | (with_reducible refine Ext.alloc ?_ _) | ((with_reducible refine Ext.setCell ?_ ?_ _); rotate_left; focus (first | (simp; done) | (simp; omega) | omega)) | (with_reducible refine Ext.trans ?_ (by with_reducible assumption))))) (HN.out.ext (by repeat (first | (with_reducible exact Ext.refl _) | (with_reducible assumption) | (with_reducible refine Ext.drewN ?_ _) | (with_reducible refine Ext.drew ?_) | (with_reducible refine Ext.alloc ?_ _) | ((with_reducible refine Ext.setCell ?_ ?_ _); rotate_left; focus (first | (simp; done) | (simp; omega) | omega)) | (with_reducible refine Ext.trans ?_ (by with_reducible assumption)))))).mono ?_); rintro e w4 ⟨a4, c4, b4, d4, ia4, ic4, ra4, rc4, rfl, hoc, hop, hos, hor, hy4⟩; have HOS := Lib.hid (Own.mono (B' := wb.heap.size) hos (Ext.le (by repeat (first | (with_reducible exact Ext.refl _) | (with_reducible assumption) | (with_reducible refine Ext.drewN ?_ _) | (with_reducible refine Ext.drew ?_) | (with_reducible refine Ext.alloc ?_ _) | ((with_reducible refine Ext.setCell ?_ ?_ _); rotate_left; focus (first | (simp; done) | (simp; omega) | omega)) | (with_reducible refine Ext.trans ?_ (by with_reducible assumption)))))); have HOR := Lib.hid (Own.mono (B' := wb.heap.size) hor (Ext.le (by repeat (first | (with_reducible exact Ext.refl _) | (with_reducible assumption) | (with_reducible refine Ext.drewN ?_ _) | (with_reducible refine Ext.drew ?_) | (with_reducible refine Ext.alloc ?_ _) | ((with_reducible refine Ext.setCell ?_ ?_ _); rotate_left; focus (first | (simp; done) | (simp; omega) | omega)) | (with_reducible refine Ext.trans ?_ (by with_reducible assumption)))))); have HOC := Lib.hid (lo_of (K := wb.heap.size) hoc hop (Ext.le (by repeat (first | (with_reducible exact Ext.refl _) | (with_reducible assumption) | (with_reducible refine Ext.drewN ?_ _) | (with_reducible refine Ext.drew ?_) | (with_reducible refine Ext.alloc ?_ _) | ((with_reducible refine Ext.setCell ?_ ?_ _); rotate_left; focus (first | (simp; done) | (simp; omega) | omega)) | (with_reducible refine Ext.trans ?_ (by with_reducible assumption))))) (Ext.le hy4)); have hx4 : Ext wb w4 := Ext.trans (by repeat (first | (with_reducible exact Ext.refl _) | (with_reducible assumption) | (with_reducible refine Ext.drewN ?_ _) | (with_reducible refine Ext.drew ?_) | (with_reducible refine Ext.alloc ?_ _) | ((with_reducible refine Ext.setCell ?_ ?_ _); rotate_left; focus (first | (simp; done) | (simp; omega) | omega)) | (with_reducible refine Ext.trans ?_ (by with_reducible assumption)))) hy4; clear hy4 hoc hop hos hor))
    obtain ⟨q7, hq7⟩ : ∃ q, q = w4.heap.size := ⟨_, rfl⟩
    obtain ⟨wA, hwA⟩ : ∃ W, W = w4.alloc (.cells #[.int .i64 D.ch.base, .int .i64 D.ch.states, .int .i64 D.ch.start, .int .i64 D.ch.fin, .slice a4 n c4, .slice b4 m d4, .int .i64 D.apart, .slice ia4 im ic4, .slice ra4 rm rc4] 32) := ⟨_, rfl⟩
    rw [← hwA, ← hq7]
    have hx4A : Ext w4 wA := by rw [hwA]; exact (Ext.refl _).alloc _
    have HSA := Lib.hid (show SAt wA q7 32 #[.int .i64 D.ch.base, .int .i64 D.ch.states, .int .i64 D.ch.start, .int .i64 D.ch.fin, .slice a4 n c4, .slice b4 m d4, .int .i64 D.apart, .slice ia4 im ic4, .slice ra4 rm rc4] by rw [hwA]; exact SAt.new' _ _ _ hq7)
    have hAs : wA.heap.size = q7 + 1 := by rw [hwA, hq7]; simp
    have hxA : Ext wb wA := hx4.trans hx4A
    have h4s : w.heap.size + 2 ≤ w4.heap.size := by have := hx4.le; omega
    have e8 := HSA.out.cell 8 (by simp)
    try simp only [List.getElem_toArray, List.getElem_cons_succ, List.getElem_cons_zero] at e8
    have HRl := Lib.hid (show D.revoked.length = rm from HN.out.rs.len)
    have HPt := Lib.hid (spec_put ra4 rm rc4 D.revoked i wA (Ints.ext HOR.out.ints hx4A) hrm)
    have HQ7 := Lib.hid hq7
    clear hwA hq7
    go_wp2_with fail
    refine HPt.out.mono ?_
    rintro e w5 ⟨a5, c5, rfl, ho5, hx5⟩
    rw [I_len, HPI.out, putI_len, HRl.out] at ho5 ⊢
    have HO5 := Lib.hid ho5
    have HS5 := Lib.hid (HSA.out.ext hx5)
    have HZ5 := Lib.hid (HZ.out.ext (hxA.trans hx5))
    clear ho5 e8
    have s0 := HS5.out.cell 0 (by simp)
    have s1 := HS5.out.cell 1 (by simp)
    have s2 := HS5.out.cell 2 (by simp)
    have s3 := HS5.out.cell 3 (by simp)
    have s4 := HS5.out.cell 4 (by simp)
    have s5 := HS5.out.cell 5 (by simp)
    have s6 := HS5.out.cell 6 (by simp)
    have s7 := HS5.out.cell 7 (by simp)
    have s8 := HS5.out.cell 8 (by simp)
    try simp only [List.getElem_toArray, List.getElem_cons_succ, List.getElem_cons_zero] at s0 s1 s2 s3 s4 s5 s6 s7 s8
    have y0 := HZ5.out.cell 0 (by simp)
    have y1 := HZ5.out.cell 1 (by simp)
    have y2 := HZ5.out.cell 2 (by simp)
    have y3 := HZ5.out.cell 3 (by simp)
    have y4 := HZ5.out.cell 4 (by simp)
    have y5 := HZ5.out.cell 5 (by simp)
    have y6 := HZ5.out.cell 6 (by simp)
    have y7 := HZ5.out.cell 7 (by simp)
    have y8 := HZ5.out.cell 8 (by simp)
    try simp only [List.getElem_toArray, List.getElem_cons_succ, List.getElem_cons_zero] at y0 y1 y2 y3 y4 y5 y6 y7 y8
    have yf := fun j => HZ5.out.frozen j
    have yl := HZ5.out.lt
    have sf := fun j => HS5.out.frozen j
    have sl := HS5.out.lt
    have hq7e := HQ7.out
    have hqz : w.heap.size + 1 ≠ q7 := by omega
    have hqz' : q7 ≠ w.heap.size + 1 := by omega
    have h5s : wA.heap.size ≤ w5.heap.size := hx5.le
    clear hq7e
    go_wp2_with fail
    refine bodyPost_ret (v := .tuple #[.agg #[.int .i64 D.ch.base, .int .i64 D.ch.states, .int .i64 D.ch.start, .int .i64 D.ch.fin, .slice a4 n c4, .slice b4 m d4, .int .i64 D.apart, .slice ia4 im ic4, .slice a5 (rm + 1) c5], .bool true]) ?_ rfl ?_
    · simp [results, Tryz.results5, go_sem, y0, y1, y2, y3, y4, y5, y6, y7, y8]
    · rw [HR.out, HO.out]
      have hns := HN.out.szs
      have hpe : putR D s = ⟨D.ch, D.apart, D.issued, putI D.revoked (i : Int)⟩ := by rw [putR, ← HIxe.out]
      have hxA5 := hxA.trans hx5
      have hxw5 := hxb.trans hxA5
      obtain ⟨lo, hlo1, hlo2, _, hoc, hop⟩ := HOC.out
      have hEx : Ext w (w5.setCell ⟨q7, 8, none⟩ (.slice a5 (rm + 1) c5)) := Ext.setCell hxw5 (p := ⟨q7, 8, none⟩) (by have hq := HQ7.out; simp only; omega) _
      rw [hpe]
      refine ⟨a4, n, c4, b4, m, d4, ia4, im, ic4, a5, rm + 1, c5, rfl, fun W hk => ?_, ?_⟩
      rotate_left
      · repeat (first | (with_reducible exact hEx) | (with_reducible refine Ext.setCell ?_ (Nat.le_add_right _ _) _))
      have hkc : ∀ wf, Chg 0 (w.heap.size + 2) (w5.setCell ⟨q7, 8, none⟩ (.slice a5 (rm + 1) c5)) wf → wf.heap.size = w5.heap.size → KeepB w.heap.size wf.heap.size wf W →
          KeepB (w.heap.size + 2) w4.heap.size w4 W ∧ KeepB wA.heap.size w5.heap.size w5 W := fun wf hc he hk => by
        have hq := HQ7.out
        have hs9 : (w5.setCell ⟨q7, 8, none⟩ (.slice a5 (rm + 1) c5)).heap.size = w5.heap.size := size_setCell _ _ _
        have k2 : KeepB (w.heap.size + 2) w5.heap.size (w5.setCell ⟨q7, 8, none⟩ (.slice a5 (rm + 1) c5)) W := (KeepB.chg hc (by omega) (.inl (Nat.le_refl _))).trans (hk.mono (by omega) (by omega))
        refine ⟨(KeepB.ext (hx4A.trans hx5) (Nat.le_refl _)).trans (KeepB.trans (KeepB.setO (KeepB.refl _ _ w5) _ _ (.inr (by simp only; omega))) (k2.mono (Nat.le_refl _) (by omega))), KeepB.trans (KeepB.setO (KeepB.refl _ _ w5) _ _ (.inl (by simp only; omega))) (k2.mono (by omega) (Nat.le_refl _))⟩
      obtain ⟨kA, kB⟩ := hkc _ (by repeat (first | (with_reducible exact Chg.refl _ _ _) | (with_reducible assumption) | ((with_reducible refine Chg.trans ?_ (Chg.setP _ _ _ ?_ ?_)); rotate_left; (focus (first | (simp; done) | (simp; omega) | omega)); (focus (first | (simp; done) | (simp; omega) | omega))) | (with_reducible refine Chg.trans ?_ (Chg.ext (Ext.alloc (Ext.refl _) _) _ _)) | (with_reducible refine Chg.trans ?_ (Chg.ext (Ext.drew (Ext.refl _)) _ _)) | (with_reducible refine Chg.trans ?_ (Chg.ext (Ext.drewN (Ext.refl _) _) _ _)))) (by simp) hk
      rw [hbs] at hlo1
      have hOS := HOS.out
      rw [hbs] at hOS
      exact ⟨⟨(hoc.keepB (kA.mono hlo1 (Nat.le_refl _))).cube, ((hop.keepB (kA.mono hlo1 (Nat.le_refl _)))).ints, hns.hn, hns.hm, hns.sm⟩, (hOS.keepB kA).sl, (HO5.out.keepB kB).ints, hns.hi, by have h1 := rev_low HOk.out; have h2 := HOk.out.n40; have h3 := HRl.out; omega, hns.sz⟩
  · rw [hrh] at HCt
    have HO := Lib.hid (show revOk D s = false by rw [revOk, ← HIxe.out, hrh]; simp)
    clear hrh
    go_enter Tryz.func5, Tryz.ntmps5
    go_wp2_with fail
    rw [← HWb.out]
    refine (HVal.out _ (by repeat (first | (with_reducible exact Ext.refl _) | (with_reducible assumption) | (with_reducible refine Ext.drewN ?_ _) | (with_reducible refine Ext.drew ?_) | (with_reducible refine Ext.alloc ?_ _) | ((with_reducible refine Ext.setCell ?_ ?_ _); rotate_left; focus (first | (simp; done) | (simp; omega) | omega)) | (with_reducible refine Ext.trans ?_ (by with_reducible assumption))))).mono ?_
    rintro e w0 ⟨rfl, hx0⟩
    go_wp2_with fail
    refine (HIx.out _ hx0).mono ?_
    rintro e w1 ⟨rfl, hy1⟩
    have hx1 : Ext wb w1 := hx0.trans hy1
    clear hy1 hx0
    go_wp2_with fail
    refine (HCt.out _ hx1).mono ?_
    rintro e w2 ⟨rfl, rfl⟩
    have hl := hx1
    have hxw := hxb.trans hx1
    have hz1 := HZ.out.ext hx1
    have y0 := hz1.cell 0 (by simp)
    have y1 := hz1.cell 1 (by simp)
    have y2 := hz1.cell 2 (by simp)
    have y3 := hz1.cell 3 (by simp)
    have y4 := hz1.cell 4 (by simp)
    have y5 := hz1.cell 5 (by simp)
    have y6 := hz1.cell 6 (by simp)
    have y7 := hz1.cell 7 (by simp)
    have y8 := hz1.cell 8 (by simp)
    try simp only [List.getElem_toArray, List.getElem_cons_succ, List.getElem_cons_zero] at y0 y1 y2 y3 y4 y5 y6 y7 y8
    have yf := fun i => hz1.frozen i
    have yl := hz1.lt
    go_wp2_with fail
    refine bodyPost_ret (v := .tuple #[.agg #[.int .i64 0, .int .i64 0, .int .i64 0, .int .i64 0, .slice none 0 0, .slice none 0 0, .int .i64 0, .slice none 0 0, .slice none 0 0], .bool false]) ?_ rfl ?_
    · simp [results, Tryz.results5, go_sem, y0, y1, y2, y3, y4, y5, y6, y7, y8]
    · exact HZF.out _ (by repeat (first | (with_reducible exact Ext.refl _) | (with_reducible assumption) | (with_reducible refine Ext.drewN ?_ _) | (with_reducible refine Ext.drew ?_) | (with_reducible refine Ext.alloc ?_ _) | ((with_reducible refine Ext.setCell ?_ ?_ _); rotate_left; focus (first | (simp; done) | (simp; omega) | omega)) | (with_reducible refine Ext.trans ?_ (by with_reducible assumption)))) HO.out
theorem spec_RevokeWord (D : Rg) (a : Option Addr) (n c : Nat) (b : Option Addr) (m d : Nat) (ia : Option Addr) (im ic : Nat) (ra : Option Addr) (rm rc : Nat) (s : ByteArray) (w : World) (hv : RgIn w D a n c b m d ia im ic ra rm rc) (_hs : s.size ≤ 1048576) : Calls Tryz.prog 5 #[.agg #[.int .i64 D.ch.base, .int .i64 D.ch.states, .int .i64 D.ch.start, .int .i64 D.ch.fin, .slice a n c, .slice b m d, .int .i64 D.apart, .slice ia im ic, .slice ra rm rc], .string s] w (RetRgK (revRes D s) (revOk D s) w) := spec_Revoke D a n c b m d ia im ic ra rm rc s w hv
theorem impl_RevokeWord (D : Rg) (a : Option Addr) (n c : Nat) (b : Option Addr) (m d : Nat) (ia : Option Addr) (im ic : Nat) (ra : Option Addr) (rm rc : Nat) (s : ByteArray) (w : World) (hv : RgIn w D a n c b m d ia im ic ra rm rc) (_hs : s.size ≤ 1048576) : Calls Tryz.prog 7 #[.agg #[.int .i64 D.ch.base, .int .i64 D.ch.states, .int .i64 D.ch.start, .int .i64 D.ch.fin, .slice a n c, .slice b m d, .int .i64 D.apart, .slice ia im ic, .slice ra rm rc], .string s] w (RetRgO (revRes D s) (revOk D s) w) := impl_Revoke D a n c b m d ia im ic ra rm rc s w hv
theorem szresRevokeWord {w : World} {D : Rg} {a : Option Addr} {n c : Nat} {b : Option Addr} {m d : Nat} {ia : Option Addr} {im ic : Nat} {ra : Option Addr} {rm rc : Nat} {s : ByteArray} (hi : RgIn w D a n c b m d ia im ic ra rm rc) (h : rgSize D ≤ 1048576) : szRg2 (revRes D s) ≤ 5000000 ∧ SmallCh (revRes D s).ch := by
  unfold revRes
  split
  · have := szRg2_le h
    refine ⟨?_, hi.ch.sm⟩
    show szCh2 D.ch + D.issued.length + (putI D.revoked (atRg D s)).length ≤ 5000000
    rw [putI_len]
    unfold szRg2 at this
    omega
  · exact ⟨by show (0 : Nat) ≤ _; omega, fun t h => by cases h⟩
end Go.Proofs.YthbdnkokklahcaaGreat
