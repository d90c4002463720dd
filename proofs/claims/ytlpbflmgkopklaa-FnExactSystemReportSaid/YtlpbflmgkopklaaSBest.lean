/- Walks: the search of best weights in the reference. -/
import Derived.Test.YtlpbflmgkopklaaBestX
import Derived.Test.YtlpbflmgkopklaaShareS
import Derived.Test.YtlpbflmgkopklaaNext
import Derived.Test.YtlpbflmgkopklaaSAt
import Derived.Deep.RegionHeld3
namespace Go.Proofs.Ytlpbflmgkopklaa
set_option maxRecDepth 100000
open Go.RowKit

def RetStart (base modulus places : Int) (w : World) (e : Ending) (w' : World) : Prop :=
  Ext w w' ∧ ∃ (b m : Int) (a : Option Addr) (n c : Nat), e = .returned (.tuple #[.agg #[.int .i64 b, .int .i64 m, .int .i64 0, .slice a n c], .bool (searchB base modulus places)]) ∧
    (searchB base modulus places = true → b = base ∧ m = modulus ∧ c = n ∧ (n : Int) = places ∧ ∃ g, a = some ⟨g, 0, none⟩ ∧ Own w' w.heap.size 2 a n n (I (List.replicate n 0)))
theorem valid_start {base modulus : Int} {n : Nat} (hm : inB modulus 2 36 = true) (hn : inB n 1 20 = true) (hf : decide (modulus ^ n ≤ 20000) = true) : validB ⟨base, modulus, 0, List.replicate n 0⟩ = searchB base modulus n := by
  obtain ⟨m1, m2⟩ := inB_t.1 hm
  unfold validB searchB manyB belowB
  simp only [List.length_replicate, Int.toNat_natCast, hm, hn, hf, Bool.true_and, Bool.and_true]
  rw [show inB 0 0 (modulus - 1) = true from inB_t.2 (by omega)]
  have : ((List.replicate n (0 : Int)).all fun x => inB x 0 (modulus - 1)) = true := by
    rw [List.all_eq_true]; intro x hx; rw [List.eq_of_mem_replicate hx]; exact inB_t.2 (by omega)
  rw [this]; simp
set_option maxHeartbeats 1000000 in
theorem spec_start (base modulus places : Int) (w : World) :
    Calls Try.prog 56 #[.int .i64 base, .int .i64 modulus, .int .i64 places] w (RetStart base modulus places w) := by
  have HP := Lib.hid (spec_in places 1 20)
  have HM := Lib.hid (spec_in modulus 2 36)
  cases hp : inB places 1 20
  · rw [hp] at HP
    have HV := Lib.hid (show searchB base modulus places = false by simp [searchB, hp])
    clear hp
    go_enter Try.func56, Try.ntmps56
    go_wp2_with (first | ((with_reducible refine (HP.out _).mono ?_); rintro e w' ⟨rfl, rfl⟩))
    refine bodyPost_ret (v := .tuple #[.agg #[.int .i64 0, .int .i64 0, .int .i64 0, .slice none 0 0], .bool false]) (by simp [results, Try.results56, go_sem]) rfl ⟨(by repeat (first | (with_reducible exact Ext.refl _) | (with_reducible refine Ext.drewN ?_ _) | (with_reducible refine Ext.drew ?_) | (with_reducible refine Ext.alloc ?_ _) | ((with_reducible refine Ext.setCell ?_ ?_ _); rotate_left; focus (first | (simp; done) | (simp; omega) | omega)))), 0, 0, none, 0, 0, by rw [HV.out], by rw [HV.out]; intro h; cases h⟩
  rw [hp] at HP
  cases hm : inB modulus 2 36
  · rw [hm] at HM
    have HV := Lib.hid (show searchB base modulus places = false by simp [searchB, hm])
    clear hp hm
    go_enter Try.func56, Try.ntmps56
    go_wp2_with (first | ((with_reducible refine (HP.out _).mono ?_); rintro e w' ⟨rfl, rfl⟩) | ((with_reducible refine (HM.out _).mono ?_); rintro e w' ⟨rfl, rfl⟩))
    refine bodyPost_ret (v := .tuple #[.agg #[.int .i64 0, .int .i64 0, .int .i64 0, .slice none 0 0], .bool false]) (by simp [results, Try.results56, go_sem]) rfl ⟨(by repeat (first | (with_reducible exact Ext.refl _) | (with_reducible refine Ext.drewN ?_ _) | (with_reducible refine Ext.drew ?_) | (with_reducible refine Ext.alloc ?_ _) | ((with_reducible refine Ext.setCell ?_ ?_ _); rotate_left; focus (first | (simp; done) | (simp; omega) | omega)))), 0, 0, none, 0, 0, by rw [HV.out], by rw [HV.out]; intro h; cases h⟩
  rw [hm] at HM
  obtain ⟨p1, p2⟩ := inB_t.1 hp
  obtain ⟨m1, m2⟩ := inB_t.1 hm
  obtain ⟨n, rfl⟩ := Int.eq_ofNat_of_zero_le (show 0 ≤ places by omega)
  obtain ⟨m, rfl⟩ := Int.eq_ofNat_of_zero_le (show 0 ≤ modulus by omega)
  have HF := Lib.hid (fun w' => spec_few m n w' (by omega) (by omega) (by omega))
  cases hf : decide ((m : Int) ^ n ≤ 20000)
  · rw [hf] at HF
    have HV := Lib.hid (show searchB base m n = false by simp only [searchB, Int.toNat_natCast, hf, Bool.and_false])
    clear hp hm hf
    go_enter Try.func56, Try.ntmps56
    go_wp2_with (first | ((with_reducible refine (HP.out _).mono ?_); rintro e w' ⟨rfl, rfl⟩) | ((with_reducible refine (HM.out _).mono ?_); rintro e w' ⟨rfl, rfl⟩) | ((with_reducible refine (HF.out _).mono ?_); rintro e w' ⟨rfl, rfl⟩))
    refine bodyPost_ret (v := .tuple #[.agg #[.int .i64 0, .int .i64 0, .int .i64 0, .slice none 0 0], .bool false]) (by simp [results, Try.results56, go_sem]) rfl ⟨(by repeat (first | (with_reducible exact Ext.refl _) | (with_reducible refine Ext.drewN ?_ _) | (with_reducible refine Ext.drew ?_) | (with_reducible refine Ext.alloc ?_ _) | ((with_reducible refine Ext.setCell ?_ ?_ _); rotate_left; focus (first | (simp; done) | (simp; omega) | omega)))), 0, 0, none, 0, 0, by rw [HV.out], by rw [HV.out]; intro h; cases h⟩
  rw [hf] at HF
  have HV := Lib.hid (valid_start (base := base) hm hp hf)
  clear hp hm hf
  go_enter Try.func56, Try.ntmps56
  go_wp2_with (first | ((with_reducible refine (HP.out _).mono ?_); rintro e w' ⟨rfl, rfl⟩) | ((with_reducible refine (HM.out _).mono ?_); rintro e w' ⟨rfl, rfl⟩) | ((with_reducible refine (HF.out _).mono ?_); rintro e w' ⟨rfl, rfl⟩) | (at_make; refine law_make _ rfl _ _ 22 rfl 2 (.int .i64 0) 8 und_int64s info_int64 rfl _ _ n rfl rfl (by omega) (by unfold maxLen; omega) ?_; intro w1 hown hx hsz))
  have hsz' : w1.heap.size = w.heap.size + 1 + 1 := by simpa using hsz
  have HX1 := Lib.hid (show Ext w w1 from (by repeat (first | (with_reducible exact Ext.refl _) | (with_reducible refine Ext.drewN ?_ _) | (with_reducible refine Ext.drew ?_) | (with_reducible refine Ext.alloc ?_ _) | ((with_reducible refine Ext.setCell ?_ ?_ _); rotate_left; focus (first | (simp; done) | (simp; omega) | omega)) | (with_reducible refine Ext.trans ?_ hx))))
  have HO1 := Lib.hid (show Own w1 w.heap.size 2 (some ⟨w.heap.size + 1, 0, none⟩) n n (I (List.replicate n 0)) by
    have := hown.mono (B' := w.heap.size) (by simp)
    rw [I_replicate]; simpa using this)
  have HO2 := Lib.hid (show Own w1 (w.heap.size + 1) 2 (some ⟨w.heap.size + 1, 0, none⟩) n n (I (List.replicate n 0)) by
    rw [I_replicate]; simpa using hown)
  have HB := Lib.hid (show IsWt (w1.alloc (.cells #[.int .i64 base, .int .i64 m, .int .i64 0, .slice (some ⟨w.heap.size + 1, 0, none⟩) n n] 34)) (w.heap.size + 1 + 1) ⟨base, m, 0, List.replicate n 0⟩ (some ⟨w.heap.size + 1, 0, none⟩) n n by
    have := isWt_box w1 base m 0 (List.replicate n 0) (some ⟨w.heap.size + 1, 0, none⟩) n n 34 HO1.out.ints
    rwa [hsz'] at this)
  obtain ⟨wS, hwS⟩ : ∃ wS, wS = w1.alloc (.cells #[.int .i64 base, .int .i64 m, .int .i64 0, .slice (some ⟨w.heap.size + 1, 0, none⟩) n n] 34) := ⟨_, rfl⟩
  have hxS : Ext w1 wS := by rw [hwS]; exact (by repeat (first | (with_reducible exact Ext.refl _) | (with_reducible refine Ext.drewN ?_ _) | (with_reducible refine Ext.drew ?_) | (with_reducible refine Ext.alloc ?_ _) | ((with_reducible refine Ext.setCell ?_ ?_ _); rotate_left; focus (first | (simp; done) | (simp; omega) | omega)) | assumption | (with_reducible refine Ext.trans ?_ (by assumption))))
  have HBS := Lib.hid (show IsWt wS (w.heap.size + 1 + 1) ⟨base, m, 0, List.replicate n 0⟩ (some ⟨w.heap.size + 1, 0, none⟩) n n by rw [hwS]; exact HB.out)
  have HIs := Lib.hid (fun W (h : Ext wS W) => spec_is (w.heap.size + 1 + 1) ⟨base, m, 0, List.replicate n 0⟩ (some ⟨w.heap.size + 1, 0, none⟩) n n W (HBS.out.ext h))
  rw [HV.out] at HIs
  obtain ⟨s0, s1, s2, s3, _⟩ := HBS.out
  have hz0 : SAt wS w.heap.size 34 #[.int .i64 0, .int .i64 0, .int .i64 0, .slice none 0 0] := ((SAt.new' w _ _ rfl).ext hx).ext hxS
  have q0 : wS.cell? ⟨w.heap.size, 0, none⟩ = some (.int .i64 0) := hz0.cell 0 (by simp)
  have q1 : wS.cell? ⟨w.heap.size, 1, none⟩ = some (.int .i64 0) := hz0.cell 1 (by simp)
  have q2 : wS.cell? ⟨w.heap.size, 2, none⟩ = some (.int .i64 0) := hz0.cell 2 (by simp)
  have q3 : wS.cell? ⟨w.heap.size, 3, none⟩ = some (.slice none 0 0) := hz0.cell 3 (by simp)
  have qf := fun i => hz0.frozen i
  have hlS : w.heap.size < wS.heap.size := hz0.lt
  have hlS2 : w.heap.size + 1 + 1 < wS.heap.size := by rw [hwS]; simp; omega
  have hwxS : Ext w wS := HX1.out.trans hxS
  simp only at s0 s1 s2 s3
  clear HB hown hx hsz hz0
  rw [← hwS]
  clear hwS
  go_region_held3 (fun w' => w'.cell? ⟨w.heap.size + 1 + 1, 0, none⟩ = some (.int .i64 base) ∧ w'.cell? ⟨w.heap.size + 1 + 1, 1, none⟩ = some (.int .i64 m) ∧ w'.cell? ⟨w.heap.size + 1 + 1, 2, none⟩ = some (.int .i64 0) ∧ w'.cell? ⟨w.heap.size + 1 + 1, 3, none⟩ = some (.slice (some ⟨w.heap.size + 1, 0, none⟩) n n)) ((refine ⟨?_, ?_, ?_, ?_⟩ <;> (simp [s0, s1, s2, s3, go_sem]; done))) ((first | (go_at_call 61; (with_reducible refine (HIs.out _ (by repeat (first | (with_reducible exact Ext.refl _) | (with_reducible assumption) | (with_reducible refine Ext.drewN ?_ _) | (with_reducible refine Ext.drew ?_) | (with_reducible refine Ext.alloc ?_ _) | ((with_reducible refine Ext.setCell ?_ ?_ _); rotate_left; focus (first | (simp; done) | (simp; omega) | omega)) | (with_reducible refine Ext.trans ?_ (by with_reducible assumption))))).mono ?_); rintro e w2 ⟨rfl, m2, rfl⟩)))
  all_goals
    go_wp2
    have ho := fun k => (HO2.out.ext hxS).ext ((Ext.refl wS).drewN k)
    refine bodyPost_ret (v := .tuple #[.agg #[.int .i64 base, .int .i64 m, .int .i64 0, .slice (some ⟨w.heap.size + 1, 0, none⟩) n n], .bool (searchB base m n)]) ?_ rfl ⟨(by repeat (first | (with_reducible exact Ext.refl _) | (with_reducible assumption) | (with_reducible refine Ext.drewN ?_ _) | (with_reducible refine Ext.drew ?_) | (with_reducible refine Ext.alloc ?_ _) | ((with_reducible refine Ext.setCell ?_ ?_ _); rotate_left; focus (first | (simp; done) | (simp; omega) | omega)) | (with_reducible refine Ext.trans ?_ (by with_reducible assumption)))), base, m, some ⟨w.heap.size + 1, 0, none⟩, n, n, rfl, fun _ => ⟨rfl, rfl, rfl, rfl, w.heap.size + 1, rfl, Own.mono (B := w.heap.size + 1) (by repeat (first | (with_reducible exact ho _) | ((with_reducible refine Own.setBelow ?_ ?_ _); rotate_left; focus (first | (simp; done) | (simp; omega) | omega)))) (by omega)⟩⟩
    simp [results, Try.results56, go_sem, q0, q1, q2, q3]
/-- what the least score is, as the reference keeps it -/
def bstL (s : Option (List Int) × Int × Int) : Int := match s.1 with | none => -1 | some _ => s.2.1
/-- between two lists: block b holds the weighting, block g its weights -/
structure SBInv (w0 w : World) (b g np m : Nat) (base : Int) (o : Option (List Int)) (sa : Option Addr) (sn sc t : Nat) (wr : World) : Prop where
  ext : Ext w0 wr
  le : w.heap.size ≤ wr.heap.size
  c0 : wr.cell? ⟨b, 0, none⟩ = some (.int .i64 base)
  c1 : wr.cell? ⟨b, 1, none⟩ = some (.int .i64 m)
  c2 : wr.cell? ⟨b, 2, none⟩ = some (.int .i64 0)
  c3 : wr.cell? ⟨b, 3, none⟩ = some (.slice (some ⟨g, 0, none⟩) np np)
  row : Own wr w0.heap.size 2 (some ⟨g, 0, none⟩) np np (I (tupAt m np (t % m ^ np)))
  best : ∀ l, o = some l → sn = l.length ∧ Own wr w.heap.size 2 sa sn sc (I l)
section
variable {w0 w : World} {b g np m : Nat} {base : Int} {o : Option (List Int)} {sa : Option Addr} {sn sc t : Nat} {wr wr' : World}
theorem SBInv.wt (h : SBInv w0 w b g np m base o sa sn sc t wr) : IsWt wr b ⟨base, m, 0, tupAt m np (t % m ^ np)⟩ (some ⟨g, 0, none⟩) np np := ⟨h.c0, h.c1, h.c2, h.c3, h.row.ints⟩
theorem SBInv.go (h : SBInv w0 w b g np m base o sa sn sc t wr) (ht : Touch g wr wr') (hg0 : w0.heap.size ≤ g) (hgw : g < w.heap.size) (hb : b ≠ g) {t' : Nat} (hr : Own wr' w0.heap.size 2 (some ⟨g, 0, none⟩) np np (I (tupAt m np (t' % m ^ np)))) :
    SBInv w0 w b g np m base o sa sn sc t' wr' :=
  ⟨⟨ht.os.trans h.ext.os, ht.tape.trans h.ext.tape, ht.output.trans h.ext.output, Nat.le_trans h.ext.size ht.size, fun k hk => (ht.block k (Nat.lt_of_lt_of_le hk h.ext.size) (by omega)).trans (h.ext.block k hk)⟩,
    Nat.le_trans h.le ht.size, ht.cell h.c0 hb, ht.cell h.c1 hb, ht.cell h.c2 hb, ht.cell h.c3 hb, hr, fun l hl => ⟨(h.best l hl).1, (h.best l hl).2.touch ht hgw⟩⟩
theorem SBInv.ex (h : SBInv w0 w b g np m base o sa sn sc t wr) (hx : Ext wr wr') : SBInv w0 w b g np m base o sa sn sc t wr' :=
  ⟨h.ext.trans hx, Nat.le_trans h.le hx.le, hx.cell h.c0, hx.cell h.c1, hx.cell h.c2, hx.cell h.c3, h.row.ext hx, fun l hl => ⟨(h.best l hl).1, (h.best l hl).2.ext hx⟩⟩
theorem scoreT_bd {base : Int} {m np t : Nat} {costs : List Int} (hb : 2 ≤ base ∧ base ≤ 36) (hm : 2 ≤ m ∧ m ≤ 36) (hn : 1 ≤ np ∧ np ≤ 20) (ht : t < m ^ np) (hcb : Costs costs) : 0 ≤ scoreF ⟨base, m, 0, tupAt m np t⟩ costs ∧ scoreF ⟨base, m, 0, tupAt m np t⟩ costs ≤ 311040000 := by
  have h := S_bd (n := (tupAt m np t).length) (f := shareF ⟨base, m, 0, tupAt m np t⟩ costs) (c := 15552000) fun i _ => shareF_bd (good_tup hb hm hn ht) hcb i
  have hl := tupAt_len m np t
  unfold scoreF
  simp only at h ⊢
  rw [hl] at h ⊢
  omega
theorem SBInv.new (h : SBInv w0 w b g np m base o sa sn sc t wr) {l : List Int} {a2 : Option Addr} {c2 : Nat} (hl : l.length = np) (ho : Own wr w.heap.size 2 a2 np c2 (I l)) : SBInv w0 w b g np m base (some l) a2 np c2 t wr :=
  ⟨h.ext, h.le, h.c0, h.c1, h.c2, h.c3, h.row, fun l' hl' => by cases hl'; exact ⟨hl.symm, ho⟩⟩
end
def RetSB (base : Int) (m np : Nat) (costs : List Int) (w0 w : World) (e : Ending) (w' : World) : Prop :=
  Ext w0 w' ∧ w.heap.size ≤ w'.heap.size ∧ ∃ sa sc l, e = .returned (.tuple #[.slice sa l.length sc, .int .i64 (bestF base m np costs).2.1, .int .i64 (bestF base m np costs).2.2]) ∧ (bestF base m np costs).1 = some l ∧ Own w' w.heap.size 2 sa l.length sc (I l)
set_option maxHeartbeats 4000000 in
theorem spec_best (w0 : World) (b g np m c' : Nat) (base : Int) (a' : Option Addr) (costs : List Int) (w : World) (hx0 : Ext w0 w) (hg0 : w0.heap.size ≤ g) (hgb : b ≠ g) (hB : IsWt w b ⟨base, m, 0, List.replicate np 0⟩ (some ⟨g, 0, none⟩) np np)
    (hO : Own w w0.heap.size 2 (some ⟨g, 0, none⟩) np np (I (List.replicate np 0))) (hc : Ints w0 a' 6 c' costs) (hcb : Costs costs) (hb : 2 ≤ base ∧ base ≤ 36) (hm : 2 ≤ m ∧ m ≤ 36) (hn : 1 ≤ np ∧ np ≤ 20) (hN : m ^ np ≤ 20000) :
    Calls Try.prog 63 #[.pointer (some ⟨b, 0, none⟩), .slice a' 6 c'] w (RetSB base m np costs w0 w) := by
  have hgw := hO.lt.2
  have hNp : 0 < m ^ np := Nat.pow_pos (by omega)
  have hI0 : ∀ sa sn sc, SBInv w0 w b g np m base none sa sn sc 0 w := fun sa sn sc => ⟨hx0, Nat.le_refl _, hB.c0, hB.c1, hB.c2, hB.c3, by rw [Nat.zero_mod, tupAt_zero]; exact hO, fun l h => by cases h⟩
  have HI0 := Lib.hid hI0
  have HC := Lib.hid hc
  have HCB := Lib.hid hcb
  have HBF := Lib.hid (show bestF base m np costs = bst (fun t => scoreF ⟨base, m, 0, tupAt m np t⟩ costs) (tupAt m np) (m ^ np) by simp only [bestF, Int.toNat_natCast])
  have HBd := Lib.hid (fun t (ht : t ≤ m ^ np) => bst_bd' (f := fun t => scoreF ⟨base, m, 0, tupAt m np t⟩ costs) (tp := tupAt m np) (c := 311040000) (N := m ^ np) (by omega) (fun t ht => scoreT_bd hb hm hn ht hcb) t ht)
  have HG := Lib.hid (fun t (ht : t < m ^ np) => good_tup (m := m) (n := np) (t := t) hb hm hn ht)
  obtain ⟨N, hNe⟩ : ∃ N, N = m ^ np := ⟨_, rfl⟩
  clear hB hO hc hcb hI0
  go_enter Try.func63, Try.ntmps63
  go_wp2_with fail
  go_loopg [7, 8, 9, 10, 11] N (fun gk s7 s8 s9 s10 _ wr => ∃ (t : Nat) (o : Option (List Int)) (ls mn : Int) (sa : Option Addr) (sn sc : Nat), t ≤ N ∧ gk = N - t ∧ s7 = .slice sa sn sc ∧ s8 = .int .i64 (bstL (o, ls, mn)) ∧ s9 = .int .i64 mn ∧ s10 = .bool (decide (t < N)) ∧
    Hid (bst (fun t => scoreF ⟨base, m, 0, tupAt m np t⟩ costs) (tupAt m np) t = (o, ls, mn)) ∧ Hid (SBInv w0 w b g np m base o sa sn sc t wr))
  case atStart => exact ⟨0, none, 0, 0, _, 0, 0, Nat.zero_le _, rfl, rfl, rfl, rfl, by rw [decide_eq_true (by omega)], rfl, (HI0.out _ _ _).ex ((Ext.refl w).alloc _)⟩
  case round =>
    obtain ⟨t, o, ls, mn, sa, sn, sc, ht, rfl, rfl, rfl, rfl, rfl, HS, HI⟩ := hrel
    have hbd := HBd.out t (by omega)
    rw [HS.out] at hbd
    simp only at hbd
    by_cases hlt : t < N
    · have hmod : t % m ^ np = t := Nat.mod_eq_of_lt (by omega)
      have hwt := HI.out.wt
      rw [hmod] at hwt
      have hrow := HI.out.row
      rw [hmod] at hrow
      have HSc := Lib.hid (spec_score b ⟨base, m, 0, tupAt m np t⟩ (some ⟨g, 0, none⟩) a' np np c' costs wr hwt (HC.out.ext HI.out.ext) HCB.out (HG.out t (by omega)))
      have HOw := Lib.hid (fun W (h : Ext wr W) => spec_own (some ⟨g, 0, none⟩) np np (tupAt m np t) W (hrow.ints.ext h) (by omega))
      have HNx := Lib.hid (fun W (h : Ext wr W) => spec_next m np t w0.heap.size g np W (by omega) (by omega) (by omega) (by omega) (hrow.ext h))
      have hz := scoreT_bd (costs := costs) hb hm hn (show t < m ^ np by omega) HCB.out
      have HN1 := Lib.hid (show bst (fun t => scoreF ⟨base, m, 0, tupAt m np t⟩ costs) (tupAt m np) (t + 1) = bnext (o, ls, mn) (scoreF ⟨base, m, 0, tupAt m np t⟩ costs) (tupAt m np t) by rw [bst, HS.out])
      have k1 : ∀ w', Ext wr w' → w'.cell? ⟨b, 1, none⟩ = some (.int .i64 m) := fun w' h => h.cell HI.out.c1
      have k3 : ∀ w', Ext wr w' → w'.cell? ⟨b, 3, none⟩ = some (.slice (some ⟨g, 0, none⟩) np np) := fun w' h => h.cell HI.out.c3
      have hd : decide (t < N) = true := decide_eq_true hlt
      rw [hd]
      generalize scoreF ⟨base, m, 0, tupAt m np t⟩ costs = z at *
      clear hwt hrow HS HI0
      cases o with
      | none =>
        go_wp2_with (first | ((with_reducible refine HSc.out.mono ?_); rintro e w1 ⟨rfl, hy⟩; have hx1 : Ext wr w1 := Ext.trans (by repeat (first | (with_reducible exact Ext.refl _) | (with_reducible assumption) | (with_reducible refine Ext.drewN ?_ _) | (with_reducible refine Ext.drew ?_) | (with_reducible refine Ext.alloc ?_ _) | ((with_reducible refine Ext.setCell ?_ ?_ _); rotate_left; focus (first | (simp; done) | (simp; omega) | omega)) | (with_reducible refine Ext.trans ?_ (by with_reducible assumption)))) hy; clear hy) | (go_at_call 41; (with_reducible refine (HOw.out _ (by repeat (first | (with_reducible exact Ext.refl _) | (with_reducible assumption) | (with_reducible refine Ext.drewN ?_ _) | (with_reducible refine Ext.drew ?_) | (with_reducible refine Ext.alloc ?_ _) | ((with_reducible refine Ext.setCell ?_ ?_ _); rotate_left; focus (first | (simp; done) | (simp; omega) | omega)) | (with_reducible refine Ext.trans ?_ (by with_reducible assumption))))).mono ?_); rintro e w2 ⟨a2, c2, rfl, ho2, hy⟩; rw [I_len, tupAt_len] at ho2 ⊢; have hx2 : Ext wr w2 := Ext.trans (by repeat (first | (with_reducible exact Ext.refl _) | (with_reducible assumption) | (with_reducible refine Ext.drewN ?_ _) | (with_reducible refine Ext.drew ?_) | (with_reducible refine Ext.alloc ?_ _) | ((with_reducible refine Ext.setCell ?_ ?_ _); rotate_left; focus (first | (simp; done) | (simp; omega) | omega)) | (with_reducible refine Ext.trans ?_ (by with_reducible assumption)))) hy; have HO2 := Lib.hid ho2; clear hy ho2))
        have HI2 := Lib.hid ((HI.out.ex hx2).new (tupAt_len m np t) (HO2.out.mono (Nat.le_trans HI.out.le hx1.le)))
        have HN2 := Lib.hid (HNx.out w2.drew (hx2.drew))
        have j1 : w2.cell? ⟨b, 1, none⟩ = some (.int .i64 m) := k1 _ hx2
        have j3 : w2.cell? ⟨b, 3, none⟩ = some (.slice (some ⟨g, 0, none⟩) np np) := k3 _ hx2
        go_still_tail 8, (by kernel_rfl)
        change wpList _ _ _ _ _ w2.drew
        go_wp2_with ((with_reducible refine HN2.out.mono ?_); rintro e w3 ⟨rfl, ht3, ho3⟩)
        go_roundg (N - (t + 1))
        case measure => omega
        case rel => exact ⟨t + 1, some (tupAt m np t), z, 1, a2, np, c2, by omega, rfl, rfl, rfl, rfl, by rw [hNe], Lib.hid HN1.out, Lib.hid ((HI2.out.ex ((Ext.refl w2).drew)).go ht3 hg0 hgw hgb ho3)⟩
      | some l =>
        have hl0 : bstL (some l, ls, mn) = ls := rfl
        rw [hl0]
        by_cases hzl : z < ls
        · have HN3 := Lib.hid (HN1.out.trans (show bnext (some l, ls, mn) z (tupAt m np t) = (some (tupAt m np t), z, 1) by simp [bnext, hzl]))
          go_wp2_with (first | ((with_reducible refine HSc.out.mono ?_); rintro e w1 ⟨rfl, hy⟩; have hx1 : Ext wr w1 := Ext.trans (by repeat (first | (with_reducible exact Ext.refl _) | (with_reducible assumption) | (with_reducible refine Ext.drewN ?_ _) | (with_reducible refine Ext.drew ?_) | (with_reducible refine Ext.alloc ?_ _) | ((with_reducible refine Ext.setCell ?_ ?_ _); rotate_left; focus (first | (simp; done) | (simp; omega) | omega)) | (with_reducible refine Ext.trans ?_ (by with_reducible assumption)))) hy; clear hy) | (go_at_call 41; (with_reducible refine (HOw.out _ (by repeat (first | (with_reducible exact Ext.refl _) | (with_reducible assumption) | (with_reducible refine Ext.drewN ?_ _) | (with_reducible refine Ext.drew ?_) | (with_reducible refine Ext.alloc ?_ _) | ((with_reducible refine Ext.setCell ?_ ?_ _); rotate_left; focus (first | (simp; done) | (simp; omega) | omega)) | (with_reducible refine Ext.trans ?_ (by with_reducible assumption))))).mono ?_); rintro e w2 ⟨a2, c2, rfl, ho2, hy⟩; rw [I_len, tupAt_len] at ho2 ⊢; have hx2 : Ext wr w2 := Ext.trans (by repeat (first | (with_reducible exact Ext.refl _) | (with_reducible assumption) | (with_reducible refine Ext.drewN ?_ _) | (with_reducible refine Ext.drew ?_) | (with_reducible refine Ext.alloc ?_ _) | ((with_reducible refine Ext.setCell ?_ ?_ _); rotate_left; focus (first | (simp; done) | (simp; omega) | omega)) | (with_reducible refine Ext.trans ?_ (by with_reducible assumption)))) hy; have HO2 := Lib.hid ho2; clear hy ho2))
          have HI2 := Lib.hid ((HI.out.ex hx2).new (tupAt_len m np t) (HO2.out.mono (Nat.le_trans HI.out.le hx1.le)))
          have HN2 := Lib.hid (HNx.out w2.drew (hx2.drew))
          have j1 : w2.cell? ⟨b, 1, none⟩ = some (.int .i64 m) := k1 _ hx2
          have j3 : w2.cell? ⟨b, 3, none⟩ = some (.slice (some ⟨g, 0, none⟩) np np) := k3 _ hx2
          go_still_tail 8, (by kernel_rfl)
          change wpList _ _ _ _ _ w2.drew
          go_wp2_with ((with_reducible refine HN2.out.mono ?_); rintro e w3 ⟨rfl, ht3, ho3⟩)
          go_roundg (N - (t + 1))
          case measure => omega
          case rel => exact ⟨t + 1, some (tupAt m np t), z, 1, a2, np, c2, by omega, rfl, rfl, rfl, rfl, by rw [hNe], Lib.hid HN3.out, Lib.hid ((HI2.out.ex ((Ext.refl w2).drew)).go ht3 hg0 hgw hgb ho3)⟩
        · by_cases hze : z = ls
          · subst hze
            have HN3 := Lib.hid (HN1.out.trans (show bnext (some l, z, mn) z (tupAt m np t) = (some l, z, mn + 1) by simp [bnext]))
            go_wp2_with (first | ((with_reducible refine HSc.out.mono ?_); rintro e w1 ⟨rfl, hy⟩; have hx1 : Ext wr w1 := Ext.trans (by repeat (first | (with_reducible exact Ext.refl _) | (with_reducible assumption) | (with_reducible refine Ext.drewN ?_ _) | (with_reducible refine Ext.drew ?_) | (with_reducible refine Ext.alloc ?_ _) | ((with_reducible refine Ext.setCell ?_ ?_ _); rotate_left; focus (first | (simp; done) | (simp; omega) | omega)) | (with_reducible refine Ext.trans ?_ (by with_reducible assumption)))) hy; clear hy) | (go_at_call 41; (with_reducible refine (HOw.out _ (by repeat (first | (with_reducible exact Ext.refl _) | (with_reducible assumption) | (with_reducible refine Ext.drewN ?_ _) | (with_reducible refine Ext.drew ?_) | (with_reducible refine Ext.alloc ?_ _) | ((with_reducible refine Ext.setCell ?_ ?_ _); rotate_left; focus (first | (simp; done) | (simp; omega) | omega)) | (with_reducible refine Ext.trans ?_ (by with_reducible assumption))))).mono ?_); rintro e w2 ⟨a2, c2, rfl, ho2, hy⟩; rw [I_len, tupAt_len] at ho2 ⊢; have hx2 : Ext wr w2 := Ext.trans (by repeat (first | (with_reducible exact Ext.refl _) | (with_reducible assumption) | (with_reducible refine Ext.drewN ?_ _) | (with_reducible refine Ext.drew ?_) | (with_reducible refine Ext.alloc ?_ _) | ((with_reducible refine Ext.setCell ?_ ?_ _); rotate_left; focus (first | (simp; done) | (simp; omega) | omega)) | (with_reducible refine Ext.trans ?_ (by with_reducible assumption)))) hy; have HO2 := Lib.hid ho2; clear hy ho2))
            have HI2 := Lib.hid (HI.out.ex hx1)
            have HN2 := Lib.hid (HNx.out w1.drew (hx1.drew))
            have j1 : w1.cell? ⟨b, 1, none⟩ = some (.int .i64 m) := k1 _ hx1
            have j3 : w1.cell? ⟨b, 3, none⟩ = some (.slice (some ⟨g, 0, none⟩) np np) := k3 _ hx1
            go_still_tail 8, (by kernel_rfl)
            change wpList _ _ _ _ _ w1.drew
            go_wp2_with ((with_reducible refine HN2.out.mono ?_); rintro e w3 ⟨rfl, ht3, ho3⟩)
            go_roundg (N - (t + 1))
            case measure => omega
            case rel => exact ⟨t + 1, some l, z, mn + 1, sa, sn, sc, by omega, rfl, rfl, rfl, rfl, by rw [hNe], Lib.hid HN3.out, Lib.hid ((HI2.out.ex ((Ext.refl w1).drew)).go ht3 hg0 hgw hgb ho3)⟩
          · have HN3 := Lib.hid (HN1.out.trans (show bnext (some l, ls, mn) z (tupAt m np t) = (some l, ls, mn) by simp [bnext, hzl, hze]))
            have hze2 : (z == ls) = false := by simpa using hze
            clear hze
            go_wp2_with (first | ((with_reducible refine HSc.out.mono ?_); rintro e w1 ⟨rfl, hy⟩; have hx1 : Ext wr w1 := Ext.trans (by repeat (first | (with_reducible exact Ext.refl _) | (with_reducible assumption) | (with_reducible refine Ext.drewN ?_ _) | (with_reducible refine Ext.drew ?_) | (with_reducible refine Ext.alloc ?_ _) | ((with_reducible refine Ext.setCell ?_ ?_ _); rotate_left; focus (first | (simp; done) | (simp; omega) | omega)) | (with_reducible refine Ext.trans ?_ (by with_reducible assumption)))) hy; clear hy) | (go_at_call 41; (with_reducible refine (HOw.out _ (by repeat (first | (with_reducible exact Ext.refl _) | (with_reducible assumption) | (with_reducible refine Ext.drewN ?_ _) | (with_reducible refine Ext.drew ?_) | (with_reducible refine Ext.alloc ?_ _) | ((with_reducible refine Ext.setCell ?_ ?_ _); rotate_left; focus (first | (simp; done) | (simp; omega) | omega)) | (with_reducible refine Ext.trans ?_ (by with_reducible assumption))))).mono ?_); rintro e w2 ⟨a2, c2, rfl, ho2, hy⟩; rw [I_len, tupAt_len] at ho2 ⊢; have hx2 : Ext wr w2 := Ext.trans (by repeat (first | (with_reducible exact Ext.refl _) | (with_reducible assumption) | (with_reducible refine Ext.drewN ?_ _) | (with_reducible refine Ext.drew ?_) | (with_reducible refine Ext.alloc ?_ _) | ((with_reducible refine Ext.setCell ?_ ?_ _); rotate_left; focus (first | (simp; done) | (simp; omega) | omega)) | (with_reducible refine Ext.trans ?_ (by with_reducible assumption)))) hy; have HO2 := Lib.hid ho2; clear hy ho2))
            have HI2 := Lib.hid (HI.out.ex hx1)
            have HN2 := Lib.hid (HNx.out w1.drew (hx1.drew))
            have j1 : w1.cell? ⟨b, 1, none⟩ = some (.int .i64 m) := k1 _ hx1
            have j3 : w1.cell? ⟨b, 3, none⟩ = some (.slice (some ⟨g, 0, none⟩) np np) := k3 _ hx1
            go_still_tail 8, (by kernel_rfl)
            change wpList _ _ _ _ _ w1.drew
            go_wp2_with ((with_reducible refine HN2.out.mono ?_); rintro e w3 ⟨rfl, ht3, ho3⟩)
            go_roundg (N - (t + 1))
            case measure => omega
            case rel => exact ⟨t + 1, some l, ls, mn, sa, sn, sc, by omega, rfl, rfl, rfl, rfl, by rw [hNe], Lib.hid HN3.out, Lib.hid ((HI2.out.ex ((Ext.refl w1).drew)).go ht3 hg0 hgw hgb ho3)⟩
    · obtain rfl : t = N := by omega
      have hd : decide (t < t) = false := by simp
      rw [hd]
      obtain ⟨l, hl⟩ : ∃ l, o = some l := by
        obtain ⟨t', ht'⟩ : ∃ t', t = t' + 1 := ⟨t - 1, by omega⟩
        have h1 := HS.out
        rw [ht', bst] at h1
        unfold bnext at h1
        split at h1
        · cases h1; exact ⟨_, rfl⟩
        · split at h1
          · cases h1; exact ⟨_, rfl⟩
          · split at h1 <;> (cases h1; exact ⟨_, rfl⟩)
      subst hl
      have hl0 : bstL (some l, ls, mn) = ls := rfl
      rw [hl0]
      have HF := Lib.hid (show bestF base m np costs = (some l, ls, mn) by rw [HBF.out, ← hNe]; exact HS.out)
      obtain ⟨hsn, hso⟩ := HI.out.best l rfl
      subst hsn
      have HSo := Lib.hid hso
      clear hso HI0
      go_wp2_with fail
      go_ret3
      exact ⟨HI.out.ext, HI.out.le, sa, sc, l, by rw [HF.out]; rfl, by rw [HF.out], HSo.out⟩
end Go.Proofs.Ytlpbflmgkopklaa
