/- Plain: what the reference finds is what the program lays. -/
import Derived.Test.YtbcfbkhbangeoaaTyO
import Derived.Test.YtbcfbkhbangeoaaTyV
import Derived.Test.YtbcfbkhbangeoaaChS
import Derived.Deep.CutBlock
namespace Go.Proofs.Ytbcfbkhbangeoaa
set_option maxRecDepth 100000
open Go.RowKit

theorem ty_ba {a b : ByteArray} (h : a.data.toList = b.data.toList) : a = b := ByteArray.ext (Array.toList_inj.1 h)
def tySym (d : Int) : UInt8 := UInt8.ofNat (sym d).toNat
theorem ty_data (ds : List Int) : (textOf ds).data.toList = ds.map tySym := by rw [textOf, strOfNums_data, List.map_map]; rfl
theorem ty_dig_all : ∀ n : Fin 256, 0 ≤ dig (UInt8.ofNat n.val) → tySym (dig (UInt8.ofNat n.val)) = UInt8.ofNat n.val := by decide +kernel
theorem ty_dig (c : UInt8) (h : 0 ≤ dig c) : tySym (dig c) = c := by
  have h1 := ty_dig_all ⟨c.toNat, c.toNat_lt⟩
  simp only [UInt8.ofNat_toNat] at h1
  exact h1 h
theorem ty_sym_all : ∀ m : Fin 36, dig (tySym (m.val : Int)) = (m.val : Int) := by decide +kernel
theorem ty_sym {d : Int} (h0 : 0 ≤ d) (h1 : d ≤ 35) : dig (tySym d) = d := by
  have := ty_sym_all ⟨d.toNat, by omega⟩
  simp only [Int.toNat_of_nonneg h0] at this
  exact this
theorem ty_text {s : ByteArray} {b : Int} {n : Nat} (h : wordB s.data.toList b n = true) : textOf (digC s) = s := by
  unfold wordB at h
  simp only [Bool.and_eq_true, List.all_eq_true, decide_eq_true_eq] at h
  refine ty_ba ?_
  rw [ty_data, digC, digs, List.map_map]
  conv => rhs; rw [← List.map_id s.data.toList]
  refine List.map_congr_left fun c hc => ?_
  exact ty_dig c (inB_t.1 (h.1 c hc)).1
theorem ty_digC {ds : List Int} (h : Dig36 ds) : digC (textOf ds) = ds := by
  unfold digC digs
  rw [ty_data, List.map_map]
  conv => rhs; rw [← List.map_id ds]
  exact List.map_congr_left fun d hd => ty_sym (h d hd).1 (h d hd).2
theorem ty_app (a b : List Int) : textOf (a ++ b) = textOf a ++ textOf b := by
  apply ty_ba
  rw [ty_data, ByteArray.data_append, Array.toList_append, ty_data, ty_data, List.map_append]
theorem ty_cut (ds : List Int) (i j : Nat) : (textOf ds).extract i j = textOf ((ds.take j).drop i) := by
  apply ty_ba
  rw [ByteArray.data_extract, Array.toList_extract, List.extract_eq_take_drop, ty_data, ty_data, List.map_drop, List.map_take, List.drop_take]
theorem ty_ext (s : ByteArray) (i j : Nat) : digC (s.extract i j) = ((digC s).take j).drop i := by
  unfold digC digs
  rw [ByteArray.data_extract, Array.toList_extract, List.extract_eq_take_drop, List.map_take, List.map_drop, List.drop_take]
theorem ty_all (l : List UInt8) (p : Int → Bool) : (l.all fun c => p (dig c)) = (digs l).all p := by
  unfold digs; rw [List.all_map]; rfl
theorem ty_word {ds : List Int} {b : Int} (hb : 2 ≤ b ∧ b ≤ 36) (hd : ∀ d ∈ ds, 0 ≤ d ∧ d < b) (hl : ds.length ≤ 20) : wordB (textOf ds).data.toList b 20 = true := by
  have hd36 : Dig36 ds := fun d h => by have := hd d h; omega
  refine wordB_yes ?_ (inB_t.2 hb) ?_
  · rw [ty_all _ (fun x => inB x 0 (b - 1)), show digs (textOf ds).data.toList = ds from ty_digC hd36, List.all_eq_true]
    intro d h
    have := hd d h
    exact inB_t.2 ⟨by omega, by omega⟩
  · have : (textOf ds).data.toList.length = ds.length := by rw [Array.length_toList]; exact textOf_size ds
    rw [this]; omega
theorem ty_chk {D : Ch} (hok : OkCh D) (hv : validCh D = true) {ds : List Int} (hd : DigC D ds) (hl : ds.length = D.places.length) : chkB D (textOf ds) = chkD D ds := by
  have h20 := hok.p20
  have h36 : Dig36 ds := fun d h => by have := hd d h; have := hok.b36; omega
  have hw : wordCh D (textOf ds) = true := by
    rw [wordCh, ty_word ⟨hok.b2, hok.b36⟩ hd (by omega), textOf_size, hl]; simp
  rw [chk_yes (show runOk D (textOf ds) = true by rw [runOk, hv, hw]; rfl), runEnd, ty_digC h36]; rfl

theorem mem_wrongN {k base m : Nat} {ds d : List Int} : d ∈ wrongN k base ds m ↔ ∃ pl, pl < m ∧ ∃ t', t' ∈ chgL k base ((ds.drop pl).take (lenK k)) ∧ d = ds.take pl ++ t' ++ ds.drop (pl + lenK k) := by
  refine ⟨wrong_mem, ?_⟩
  rintro ⟨pl, hp, t', ht, rfl⟩
  exact List.mem_flatten.2 ⟨_, List.mem_map.2 ⟨pl, List.mem_range.2 hp, rfl⟩, List.mem_map.2 ⟨t', ht, rfl⟩⟩
theorem mem_wrT {s t : ByteArray} {P : List (List Int × List Int)} {sz m : Nat} : t ∈ wrT s P sz m ↔ ∃ i, i < m ∧ ∃ p ∈ P, p.1 = digC (s.extract i (i + sz)) ∧ t = txtW s sz i p := by
  unfold wrT wrI
  constructor
  · intro h
    obtain ⟨l, hl, ht⟩ := List.mem_flatten.1 h
    obtain ⟨i, hi, rfl⟩ := List.mem_map.1 hl
    obtain ⟨p, hp, rfl⟩ := List.mem_map.1 ht
    rw [List.mem_filter] at hp
    exact ⟨i, List.mem_range.1 hi, p, hp.1, by simpa using hp.2, rfl⟩
  · rintro ⟨i, hi, p, hp, he, rfl⟩
    exact List.mem_flatten.2 ⟨_, List.mem_map.2 ⟨i, List.mem_range.2 hi, rfl⟩, List.mem_map.2 ⟨p, List.mem_filter.2 ⟨hp, by simpa using he⟩, rfl⟩⟩
/-- the reference's words of a kind are the program's -/
theorem mem_kind {s t : ByteArray} {b k : Nat} (hk : k ≤ 5) (h5 : k = 5 → 10 ≤ b) {n : Nat} (hw : wordB s.data.toList (b : Int) n = true) :
    t ∈ wrT s (wrP k b b) (lenK k) (s.size + 1 - lenK k) ↔ ∃ d ∈ wrongL k b (digC s), t = textOf d := by
  have hst := ty_text hw
  have hdg : ∀ x ∈ digC s, 0 ≤ x ∧ x < (b : Int) := fun x hx => by
    unfold wordB at hw
    simp only [Bool.and_eq_true, List.all_eq_true, decide_eq_true_eq] at hw
    obtain ⟨c, hc, rfl⟩ := List.mem_map.1 hx
    have := inB_t.1 (hw.1 c hc)
    omega
  have hsz : (digC s).length = s.size := digC_len s
  have htx : ∀ i p, i + lenK k ≤ s.size → txtW s (lenK k) i p = textOf ((digC s).take i ++ p.2 ++ (digC s).drop (i + lenK k)) := fun i p hi => by
    rw [ty_app, ty_app]
    have e1 : s.extract 0 i = textOf ((digC s).take i) := by
      conv => lhs; rw [← hst]
      rw [ty_cut]; rfl
    have e2 : s.extract (i + lenK k) s.size = textOf ((digC s).drop (i + lenK k)) := by
      conv => lhs; rw [← hst]
      rw [ty_cut, textOf_size, List.take_of_length_le (Nat.le_refl _)]
    unfold txtW
    rw [e1, e2]
  have hdi : ∀ i, digC (s.extract i (i + lenK k)) = ((digC s).drop i).take (lenK k) := fun i => by
    rw [ty_ext, List.drop_take, show i + lenK k - i = lenK k by omega]
  have hfl : ∀ i, i + lenK k ≤ s.size → (((digC s).drop i).take (lenK k)).length = lenK k := fun i hi => by rw [List.length_take, List.length_drop]; omega
  have hfd : ∀ i, ∀ x ∈ ((digC s).drop i).take (lenK k), 0 ≤ x ∧ x < (b : Int) := fun i x hx => hdg x (List.mem_of_mem_drop (List.mem_of_mem_take hx))
  have hk1 : 1 ≤ lenK k := by unfold lenK; split <;> (try split) <;> omega
  rw [mem_wrT]
  unfold wrongL
  constructor
  · rintro ⟨i, hi, p, hp, he, rfl⟩
    have hi' : i + lenK k ≤ s.size := by omega
    rw [hdi] at he
    refine ⟨_, mem_wrongN.2 ⟨i, by omega, p.2, ?_, rfl⟩, htx i p hi'⟩
    exact (wrP_chg hk h5 (hfd i) (hfl i hi')).1 (by rw [← he]; exact hp)
  · rintro ⟨d, hd, rfl⟩
    obtain ⟨i, hi, t', ht', rfl⟩ := mem_wrongN.1 hd
    have hi' : i + lenK k ≤ s.size := by omega
    refine ⟨i, by omega, (((digC s).drop i).take (lenK k), t'), (wrP_chg hk h5 (hfd i) (hfl i hi')).2 ht', (hdi i).symm, ?_⟩
    rw [htx i _ hi']
/-- the words of a kind -/
def listK (s : ByteArray) (b k : Nat) : List ByteArray := if kindB k b then putAll (wrT s (wrP k b b) (lenK k) (s.size + 1 - lenK k)) else []
def allK (s : ByteArray) (b m : Nat) : List ByteArray := ((List.range m).map (listK s b)).flatten
theorem allK_step (s : ByteArray) (b m : Nat) : allK s b (m + 1) = allK s b m ++ listK s b m := by unfold allK; rw [List.range_succ, List.map_append, List.flatten_append]; simp
theorem mem_allK {s t : ByteArray} {b m : Nat} : t ∈ allK s b m ↔ ∃ k, k < m ∧ t ∈ listK s b k := by
  unfold allK
  constructor
  · intro h
    obtain ⟨l, hl, ht⟩ := List.mem_flatten.1 h
    obtain ⟨k, hk, rfl⟩ := List.mem_map.1 hl
    exact ⟨k, List.mem_range.1 hk, ht⟩
  · rintro ⟨k, hk, ht⟩
    exact List.mem_flatten.2 ⟨_, List.mem_map.2 ⟨k, List.mem_range.2 hk, rfl⟩, ht⟩
theorem mem_rowK {D : Ch} (hok : OkCh D) (hv : validCh D = true) {b : Nat} (hb : D.base = (b : Int)) {s : ByteArray} (hw : wordCh D s = true) {k : Nat} (hk : k ≤ 5) {t : ByteArray} :
    t ∈ (rowK D b (digC s) k).map Prod.fst ↔ t ∈ listK s b k ∧ chkB D t = true := by
  obtain ⟨hd, hl⟩ := word_facts hw
  have hwb : wordB s.data.toList (b : Int) 20 = true := by
    unfold wordCh at hw
    rw [Bool.and_eq_true] at hw
    rw [← hb]; exact hw.1
  unfold rowK listK
  cases hkb : kindB k (b : Int)
  · simp
  · have h5 : k = 5 → 10 ≤ b := fun e => by subst e; simp [kindB] at hkb; omega
    have h5' : k ≤ 4 ∨ 10 ≤ b := by
      rcases Nat.lt_or_ge k 5 with h | h
      · exact Or.inl (by omega)
      · exact Or.inr (h5 (by omega))
    have hdg : ∀ d ∈ wrongL k b (digC s), d.length = D.places.length ∧ DigC D d := fun d hd' => by
      obtain ⟨h1, h2⟩ := wrong_dig (fun x hx => by have := hd x hx; omega) h5' hd'
      exact ⟨h1.trans hl, fun x hx => by have := h2 x hx; omega⟩
    simp only [if_true, mem_putAll]
    rw [mem_kind hk h5 hwb]
    unfold putsK
    rw [List.take_of_length_le (Nat.le_refl _), List.map_map, List.mem_map]
    constructor
    · rintro ⟨d, hd', rfl⟩
      rw [List.mem_filter] at hd'
      obtain ⟨h1, h2⟩ := hdg d hd'.1
      exact ⟨⟨d, hd'.1, rfl⟩, by show chkB D (textOf d) = true; rw [ty_chk hok hv h2 h1]; exact hd'.2⟩
    · rintro ⟨⟨d, hd', rfl⟩, hc⟩
      obtain ⟨h1, h2⟩ := hdg d hd'
      rw [ty_chk hok hv h2 h1] at hc
      exact ⟨d, List.mem_filter.2 ⟨hd', hc⟩, rfl⟩
theorem valK_app (L L' : List (ByteArray × Int)) (t : ByteArray) (z : Int) : valK (L ++ L') t z = valK L' t (valK L t z) := by unfold valK; rw [List.foldl_append]
theorem valK_const {L : List (ByteArray × Int)} {v : Int} (h : ∀ p ∈ L, p.2 = v) {t : ByteArray} (ht : t ∈ L.map Prod.fst) (z : Int) : valK L t z = v := by
  induction L generalizing z with
  | nil => simp at ht
  | cons p r ih =>
    have e : valK (p :: r) t z = valK r t (if p.1 = t then p.2 else z) := rfl
    rw [e]
    by_cases hr : t ∈ r.map Prod.fst
    · exact ih (fun q hq => h q (List.mem_cons_of_mem _ hq)) hr _
    · rw [valK_not hr]
      rw [List.map_cons, List.mem_cons] at ht
      rcases ht with ht | ht
      · rw [if_pos ht.symm]; exact h p (by simp)
      · exact absurd ht hr
theorem rowK_val {D : Ch} {b : Nat} {ds : List Int} {k : Nat} : ∀ p ∈ rowK D b ds k, p.2 = (k : Int) := fun p hp => by
  unfold rowK at hp
  split at hp
  · unfold putsK at hp
    obtain ⟨d, _, rfl⟩ := List.mem_map.1 hp
    rfl
  · cases hp
theorem val_least {D : Ch} {b : Nat} {ds : List Int} {t : ByteArray} {k : Nat} (hk : k ≤ 5) (h : t ∈ (rowK D b ds k).map Prod.fst) (hl : ∀ j, j < k → t ∉ (rowK D b ds j).map Prod.fst) (z : Int) : ∀ n m, k = m + n → valK (putsF D b ds m) t z = (k : Int)
  | 0, m, e => by
    subst e
    rw [putsF_step D b ds hk, valK_app]
    exact valK_const rowK_val h _
  | n + 1, m, e => by
    rw [putsF_step D b ds (by omega), valK_app, valK_not (hl m (by omega))]
    exact val_least hk h hl z n (m + 1) (by omega)
theorem mem_putsF {D : Ch} {b : Nat} {ds : List Int} {t : ByteArray} : t ∈ (putsF D b ds 0).map Prod.fst ↔ ∃ k, k ≤ 5 ∧ t ∈ (rowK D b ds k).map Prod.fst := by
  unfold putsF
  simp only [List.mem_map, List.mem_flatten]
  constructor
  · rintro ⟨p, ⟨l, ⟨r, hr, rfl⟩, hp⟩, rfl⟩
    exact ⟨5 - r, by omega, p, hp, rfl⟩
  · rintro ⟨k, hk, p, hp, rfl⟩
    exact ⟨p, ⟨_, ⟨5 - k, List.mem_range.2 (by omega), rfl⟩, by rw [show 5 - (5 - k) = k by omega]; exact hp⟩, rfl⟩
/-- the reference's candidates: the words of all kinds that are checked, each with its least kind -/
theorem isC_of {D : Ch} (hok : OkCh D) (hv : validCh D = true) {b : Nat} (hb : D.base = (b : Int)) {s : ByteArray} (hw : wordCh D s = true) {qs : List (ByteArray × Int)}
    (hq : qs.map Prod.fst = putAll ((allK s b 6).filter (chkB D))) (hl : ∀ p ∈ qs, ∃ k : Nat, p.2 = (k : Int) ∧ k ≤ 5 ∧ p.1 ∈ listK s b k ∧ ∀ j, j < k → p.1 ∉ listK s b j) : IsC (putsF D b (digC s) 0) qs := by
  have hasc : ascS (qs.map Prod.fst) := by rw [hq]; exact putAll_asc _
  have hval : ∀ p ∈ qs, p.1 ∈ (putsF D b (digC s) 0).map Prod.fst ∧ p.2 = valK (putsF D b (digC s) 0) p.1 0 := fun p hp => by
    obtain ⟨k, e, hk, h1, h2⟩ := hl p hp
    have hm : p.1 ∈ putAll ((allK s b 6).filter (chkB D)) := by rw [← hq]; exact List.mem_map.2 ⟨p, hp, rfl⟩
    rw [mem_putAll, List.mem_filter] at hm
    have hr : p.1 ∈ (rowK D b (digC s) k).map Prod.fst := (mem_rowK hok hv hb hw hk).2 ⟨h1, hm.2⟩
    exact ⟨mem_putsF.2 ⟨k, hk, hr⟩, by rw [val_least hk hr (fun j hj hn => h2 j hj ((mem_rowK hok hv hb hw (by omega)).1 hn).1) 0 k 0 (by omega)]; exact e⟩
  refine ⟨List.pairwise_map.1 hasc, fun t v => ⟨fun h => hval _ h, ?_⟩⟩
  rintro ⟨h, rfl⟩
  obtain ⟨k, hk, hr⟩ := mem_putsF.1 h
  obtain ⟨h1, h2⟩ := (mem_rowK hok hv hb hw hk).1 hr
  have hm : t ∈ qs.map Prod.fst := by rw [hq, mem_putAll, List.mem_filter]; exact ⟨mem_allK.2 ⟨k, by omega, h1⟩, h2⟩
  obtain ⟨p, hp, rfl⟩ := List.mem_map.1 hm
  rw [← (hval p hp).2]; exact hp
end Go.Proofs.Ytbcfbkhbangeoaa

/- Walks: spec.CandidatesFor. -/
namespace Go.Proofs.Ytbcfbkhbangeoaa
set_option maxRecDepth 100000
open Go.RowKit

def NoneT (p : ByteArray → Bool) (l : List ByteArray) : Prop := ∀ x ∈ l, p x = false
theorem NoneT.stepS {p : ByteArray → Bool} {l : List ByteArray} {k : Nat} (hk : k < l.length) (hc : p (gs l k) = false) (h : NoneT p (l.take k)) : NoneT p (l.take (k + 1)) := by
  have e : l.take (k + 1) = l.take k ++ [gs l k] := take_snoc l _ k hk
  intro x hx
  rw [e, List.mem_append] at hx
  rcases hx with hx | hx
  · exact h x hx
  · rw [List.mem_singleton] at hx; subst hx; exact hc
def hasT (l : List ByteArray) (s : ByteArray) : Bool := l.any fun x => s.toList == x.toList
theorem hasT_iff {l : List ByteArray} {s : ByteArray} : hasT l s = true ↔ s ∈ l := by
  unfold hasT
  rw [List.any_eq_true]
  constructor
  · rintro ⟨x, hx, he⟩; rw [bs_iff.1 he]; exact hx
  · intro h; exact ⟨s, h, by simp⟩
set_option maxHeartbeats 1000000 in
theorem spec_hasT (a : Option Addr) (n c : Nat) (l : List ByteArray) (s : ByteArray) (w : World) (h : Strs w a n c l) (hn : n ≤ 1048576) :
    Calls Try.prog 30 #[.slice a n c, .string s] w (Ret (.bool (hasT l s)) w) := by
  have HL := Lib.hid h.len
  have HDec := Lib.hid (show hasT l s = l.any (fun x => s.toList == x.toList) from rfl)
  obtain ⟨b, off, hix, hcell⟩ := h.ix (P := Try.prog) 42 9 und_strs cell_str
  clear h
  go_enter Try.func30, Try.ntmps30
  go_wp2_with fail
  go_loopw [5] (fun ii wr => ∃ i : Nat, i ≤ n ∧ ii = .int .i64 i ∧ Hid (NoneT (fun x => s.toList == x.toList) (l.take i)) ∧ Ext w wr) (fun ii _ => n - (intOf ii).toNat)
  case atStart => exact ⟨0, Nat.zero_le _, rfl, Lib.hid (by simp [NoneT]), (by repeat (first | (with_reducible exact Ext.refl _) | (with_reducible refine Ext.drewN ?_ _) | (with_reducible refine Ext.drew ?_) | (with_reducible refine Ext.alloc ?_ _) | ((with_reducible refine Ext.setCell ?_ ?_ _); rotate_left; focus (first | (simp; done) | (simp; omega) | omega)) | assumption | (with_reducible refine Ext.trans ?_ (by assumption))))⟩
  case round =>
    obtain ⟨i, hi, rfl, HNo, hx⟩ := hrel
    have hxr : Ext w wr := hx
    by_cases hlt : i < n
    · have hin : i < l.length := by rw [HL.out]; exact hlt
      have HN1 := Lib.hid (fun h => NoneT.stepS (p := fun x => s.toList == x.toList) hin h HNo.out)
      have HN2 := Lib.hid (fun (h : (s.toList == (gs l i).toList) = true) => show l.any (fun x => s.toList == x.toList) = true from List.any_eq_true.2 ⟨gs l i, gs_mem hin, h⟩)
      clear hin
      cases heq : ((gs l i).toList == s.toList)
      · have HX := Lib.hid (HN1.out (by rw [BEq.comm]; exact heq))
        go_wp2
        exact ⟨⟨i + 1, by omega, by go_num, HX.out, (by repeat (first | (with_reducible exact Ext.refl _) | (with_reducible refine Ext.drewN ?_ _) | (with_reducible refine Ext.drew ?_) | (with_reducible refine Ext.alloc ?_ _) | ((with_reducible refine Ext.setCell ?_ ?_ _); rotate_left; focus (first | (simp; done) | (simp; omega) | omega)) | assumption | (with_reducible refine Ext.trans ?_ (by assumption))))⟩, by simp [intOf]; omega⟩
      · have HX := Lib.hid (HDec.out.trans (HN2.out (by rw [BEq.comm]; exact heq)))
        go_wp2
        go_ret
        exact ⟨rb HX.out.symm, (by repeat (first | (with_reducible exact Ext.refl _) | (with_reducible refine Ext.drewN ?_ _) | (with_reducible refine Ext.drew ?_) | (with_reducible refine Ext.alloc ?_ _) | ((with_reducible refine Ext.setCell ?_ ?_ _); rotate_left; focus (first | (simp; done) | (simp; omega) | omega)) | assumption | (with_reducible refine Ext.trans ?_ (by assumption))))⟩
    · go_wp2
      go_ret
      refine ⟨rb (Bool.eq_false_iff.2 fun h => ?_).symm, (by repeat (first | (with_reducible exact Ext.refl _) | (with_reducible refine Ext.drewN ?_ _) | (with_reducible refine Ext.drew ?_) | (with_reducible refine Ext.alloc ?_ _) | ((with_reducible refine Ext.setCell ?_ ?_ _); rotate_left; focus (first | (simp; done) | (simp; omega) | omega)) | assumption | (with_reducible refine Ext.trans ?_ (by assumption))))⟩
      rw [HDec.out] at h
      have h1 := HNo.out
      rw [take_full (by rw [HL.out]; omega)] at h1
      obtain ⟨x, hx1, hx2⟩ := List.any_eq_true.1 h
      have := h1 x hx1
      simp only at this hx2
      rw [this] at hx2
      cases hx2
theorem nodup_le' {α : Type} [BEq α] [LawfulBEq α] : ∀ {l l' : List α}, l.Nodup → (∀ x ∈ l, x ∈ l') → l.length ≤ l'.length
  | [], _, _, _ => by simp
  | a :: l, l', hn, hs => by
    rw [List.nodup_cons] at hn
    have ha := hs a (by simp)
    have h := nodup_le' (l := l) (l' := l'.erase a) hn.2 fun x hx => (List.mem_erase_of_ne (fun e => by subst e; exact hn.1 hx)).2 (hs x (List.mem_cons_of_mem _ hx))
    rw [List.length_erase_of_mem ha] at h
    have := List.length_pos_of_mem ha
    simp; omega
theorem nodup_le {l l' : List ByteArray} (hn : l.Nodup) (hs : ∀ x ∈ l, x ∈ l') : l.length ≤ l'.length := by
  have h := nodup_le' (l := l.map fun x => x.data.toList) (l' := l'.map fun x => x.data.toList) (by
    rw [List.nodup_iff_pairwise_ne, List.pairwise_map]
    exact (List.nodup_iff_pairwise_ne.1 hn).imp fun h e => h (ty_ba e)) (fun x hx => by
    obtain ⟨y, hy, rfl⟩ := List.mem_map.1 hx
    exact List.mem_map.2 ⟨y, hs y hy, rfl⟩)
  simpa using h
theorem asc_nodup {l : List ByteArray} (h : ascS l) : l.Nodup := h.imp fun h e => by subst e; rw [less_irrefl] at h; cases h
theorem listK_mem {D : Ch} {b : Nat} (hb : D.base = (b : Int)) {s : ByteArray} (hw : wordCh D s = true) {k : Nat} (hk : k ≤ 5) {t : ByteArray} (h : t ∈ listK s b k) : ∃ d ∈ wrongL k b (digC s), t = textOf d := by
  have hwb : wordB s.data.toList (b : Int) 20 = true := by
    unfold wordCh at hw
    rw [Bool.and_eq_true] at hw
    rw [← hb]; exact hw.1
  unfold listK at h
  cases hkb : kindB k (b : Int)
  · rw [hkb] at h; simp at h
  · rw [hkb] at h
    have h5 : k = 5 → 10 ≤ b := fun e => by subst e; simp [kindB] at hkb; omega
    simp only [if_true, mem_putAll] at h
    exact (mem_kind hk h5 hwb).1 h
theorem listK_asc (s : ByteArray) (b k : Nat) : ascS (listK s b k) := by
  unfold listK; split
  · exact putAll_asc _
  · exact List.Pairwise.nil
theorem listK_facts {D : Ch} (hok : OkCh D) {b : Nat} (hb : D.base = (b : Int)) {s : ByteArray} (hw : wordCh D s = true) {k : Nat} (hk : k ≤ 5) : (listK s b k).length ≤ 1000 ∧ ∀ t ∈ listK s b k, t.size ≤ 20 := by
  obtain ⟨hd, hl⟩ := word_facts hw
  have h20 := hok.p20
  have hb36 : b ≤ 36 := by have := hok.b36; omega
  constructor
  · have h1 := nodup_le (asc_nodup (listK_asc s b k)) (l' := (wrongL k b (digC s)).map textOf) fun x hx => by
      obtain ⟨d, hd, rfl⟩ := listK_mem hb hw hk hx; exact List.mem_map.2 ⟨d, hd, rfl⟩
    rw [List.length_map] at h1
    exact Nat.le_trans h1 (wrongL_le k b _ hb36 (by omega))
  · intro t ht
    obtain ⟨d, hd', rfl⟩ := listK_mem hb hw hk ht
    have hkb : kindB k (b : Int) = true := by
      cases h : kindB k (b : Int)
      · unfold listK at ht; rw [h] at ht; simp at ht
      · rfl
    have h5 : k ≤ 4 ∨ 10 ≤ b := by
      simp only [kindB, Bool.or_eq_true, decide_eq_true_eq] at hkb
      omega
    rw [textOf_size, (wrong_dig (fun x hx => by have := hd x hx; omega) h5 hd').1]; omega
end Go.Proofs.Ytbcfbkhbangeoaa

/- Walks: spec.CandidatesFor. -/
namespace Go.Proofs.Ytbcfbkhbangeoaa
set_option maxRecDepth 100000
open Go.RowKit

theorem cand_start (w1 : World) : Own ((w1.alloc (.cells #[] 9)).alloc (.cells #[] 42)) w1.heap.size 9 (some ⟨w1.heap.size, 0, none⟩) 0 0 (St []) ∧ OwnTx ((w1.alloc (.cells #[] 9)).alloc (.cells #[] 42)) w1.heap.size (some ⟨w1.heap.size + 1, 0, none⟩) 0 0 [] ∧ Ext w1 ((w1.alloc (.cells #[] 9)).alloc (.cells #[] 42)) := by
  have hx : Ext w1 (w1.alloc (.cells #[] 9)) := (Ext.refl w1).alloc _
  have hs : (w1.alloc (.cells #[] 9)).heap.size = w1.heap.size + 1 := by simp
  have h2 := (OwnTx.lit0 (w1.alloc (.cells #[] 9))).mono hx.le
  rw [hs] at h2
  exact ⟨(Own.lit0 w1 _).ext ((Ext.refl _).alloc _), h2, hx.alloc _⟩
set_option maxHeartbeats 8000000 in
theorem spec_Cand (C : Ch) (a : Option Addr) (n c : Nat) (b : Option Addr) (m d : Nat) (s : ByteArray) (w : World) (hv : ChIn w C a n c b m d) (hs : s.size ≤ 1048576) :
    Calls Try.prog 6 #[.agg #[.int .i64 C.base, .int .i64 C.states, .int .i64 C.start, .int .i64 C.fin, .slice a n c, .slice b m d], .string s] w (RetCd C s w) := by
  have HB := Lib.hid (hv.box 30)
  have HI := Lib.hid hv
  obtain ⟨q, hq⟩ : ∃ q, q = w.heap.size := ⟨_, rfl⟩
  obtain ⟨wb, hwb⟩ : ∃ W, W = w.alloc (.cells #[.int .i64 C.base, .int .i64 C.states, .int .i64 C.start, .int .i64 C.fin, .slice a n c, .slice b m d] 30) := ⟨_, rfl⟩
  have hxb : Ext w wb := by rw [hwb]; exact (by repeat (first | (with_reducible exact Ext.refl _) | (with_reducible refine Ext.drewN ?_ _) | (with_reducible refine Ext.drew ?_) | (with_reducible refine Ext.alloc ?_ _) | ((with_reducible refine Ext.setCell ?_ ?_ _); rotate_left; focus (first | (simp; done) | (simp; omega) | omega)) | assumption | (with_reducible refine Ext.trans ?_ (by assumption))))
  rw [← hwb, ← hq] at HB
  have HBo := Lib.hid (spec_l02Both C q a n c b m d s wb HB.out hv.hn hv.hn' hv.sm hs)
  clear hv
  cases hr : runOk C s
  · rw [hr] at HBo
    have HF := Lib.hid hr
    have HX := Lib.hid hxb
    clear hr hxb HB
    go_enter Try.func6, Try.ntmps6
    go_wp2_with fail
    rw [← hwb, ← hq]
    clear hwb hq
    refine HBo.out.mono ?_
    rintro e w1 ⟨rfl, hx1⟩
    go_wp2_with fail
    go_ret2
    exact RetCd.no HF.out (HX.out.trans hx1)
  rw [hr] at HBo
  have hvw : validCh C = true ∧ wordCh C s = true := by unfold runOk at hr; simpa using hr
  have hok := validCh_ok hvw.1
  obtain ⟨bs, hbs⟩ : ∃ bs : Nat, C.base = (bs : Int) := Int.eq_ofNat_of_zero_le (by have := hok.b2; omega)
  have HRun := Lib.hid hr
  have HV := Lib.hid hvw
  have HOk := Lib.hid hok
  have HBs := Lib.hid hbs
  have HLk := Lib.hid (fun k (hk : k ≤ 5) => listK_facts hok hbs hvw.2 hk)
  obtain ⟨_, _, hs20⟩ := wordCh_t hvw.2
  have hb2 : 2 ≤ bs := by have := hok.b2; omega
  have hb36 : bs ≤ 36 := by have := hok.b36; omega
  have HCk := Lib.hid (fun x W (h : Ext wb W) (hx : x.size ≤ 1048576) => spec_l02Checked C q a n c b m d x W (HB.out.ext h) HI.out.hn HI.out.hn' HI.out.sm hx)
  clear hr hvw hok hbs
  go_enter Try.func6, Try.ntmps6
  go_wp2_with fail
  rw [← hwb, ← hq]
  clear hwb hq
  refine HBo.out.mono ?_
  rintro e w1 ⟨rfl, hx1⟩
  have hxb1 : Ext wb w1 := hx1
  have HX1 := Lib.hid (hxb.trans hx1)
  have HA1 := Lib.hid (HB.out.ext hx1)
  clear hx1 HBo HB hxb
  go_wp2_with fail
  obtain ⟨g1, g2, hxg⟩ := cand_start w1
  have H1 := Lib.hid g1
  have H2 := Lib.hid g2
  have HXg := Lib.hid hxg
  clear g1 g2 hxg
  go_loopw [6, 7, 8] (fun u6 u7 u8 wr => ∃ (k : Nat) (L : List ByteArray) (wa : Option Addr) (wcp : Nat) (ka : Option Addr) (kc : Nat), k ≤ 6 ∧ u6 = .slice wa L.length wcp ∧ u7 = .slice ka k kc ∧ u8 = .int .i64 k ∧ Hid (L = putAll ((allK s bs k).filter (chkB C))) ∧ L.length ≤ k * 1000 ∧ Hid (Own wr w1.heap.size 9 wa L.length wcp (St L)) ∧ Hid (OwnTx wr w1.heap.size ka k kc ((List.range k).map (listK s bs))) ∧ Hid (Ext w1 wr)) (fun _ _ u8 _ => 6 - (intOf u8).toNat)
  case atStart => exact ⟨0, [], _, _, _, _, Nat.zero_le _, rfl, rfl, rfl, rfl, Nat.zero_le _, H1.out, H2.out, HXg.out⟩
  case round =>
    clear H1 H2 HXg
    obtain ⟨k, L, wa, wcp, ka, kc, hk6, rfl, rfl, rfl, HL, hLl, HO, HT, HXr⟩ := hrel
    by_cases hk : k < 6
    · have HSz := Lib.hid (fun W => spec_l02Size k (by omega) (bs : Int) W)
      have HA := Lib.hid (HA1.out.ext HXr.out)
      have hrr : Ext wr wr := Ext.refl _
      have c0 := HA.out.c0
      rw [HBs.out] at c0
      obtain ⟨N, hN⟩ : ∃ N, N = (listK s bs k).length := ⟨_, rfl⟩
      have hN1 : N ≤ 1000 := by rw [hN]; exact (HLk.out k (by omega)).1
      have HN := Lib.hid hN
      clear hN
      have HWr := Lib.hid (fun (h : kindB k (bs : Int) = true) W => spec_l06Wrong s hs20 bs hb2 hb36 k (by omega) h W)
      go_upto_if 28 with (go_at_call 26; refine (HSz.out _).mono ?_; rintro e w3 ⟨rfl, rfl⟩)
      obtain ⟨w3, hw3⟩ : ∃ W, W = wr.alloc (.cells #[] 9) := ⟨_, rfl⟩
      have hx3 : Ext wr w3 := by rw [hw3]; exact (by repeat (first | (with_reducible exact Ext.refl _) | (with_reducible refine Ext.drewN ?_ _) | (with_reducible refine Ext.drew ?_) | (with_reducible refine Ext.alloc ?_ _) | ((with_reducible refine Ext.setCell ?_ ?_ _); rotate_left; focus (first | (simp; done) | (simp; omega) | omega)) | assumption | (with_reducible refine Ext.trans ?_ (by assumption))))
      have HE3 := Lib.hid (show Own w3 w1.heap.size 9 (some ⟨wr.heap.size, 0, none⟩) 0 0 (St []) by rw [hw3]; exact (Own.lit0 wr _).mono HXr.out.le)
      have c03 := HA.out.c0 w3 hx3
      rw [HBs.out] at c03
      rw [← hw3]
      clear hw3
      obtain ⟨bz, hbz⟩ : ∃ z, z = decide (0 < sizeK k (bs : Int)) := ⟨_, rfl⟩
      have HBz := Lib.hid hbz
      rw [← hbz]
      clear hbz
      go_cut [9] from 29 to 33 (fun v9 wx => ∃ la lc, v9 = .slice la N lc ∧ Own wx w1.heap.size 9 la N lc (St (listK s bs k)) ∧ Ext w3 wx)
      case first =>
        cases hkb : kindB k (bs : Int)
        · have hz := sizeK_no hkb
          have HLn := Lib.hid (show listK s bs k = [] by unfold listK; rw [hkb]; rfl)
          have hN0 : N = 0 := by rw [HN.out, HLn.out]; rfl
          obtain rfl : bz = false := by rw [HBz.out, hz]; rfl
          clear hkb hz
          go_wp2_with fail
          go_meet
          refine ⟨_, _, by rw [hN0], ?_, Ext.refl _⟩
          rw [HLn.out, hN0]; exact HE3.out
        · have hz := sizeK_yes hkb
          have HLn := Lib.hid (show listK s bs k = putAll (wrT s (wrP k bs bs) (lenK k) (s.size + 1 - lenK k)) by unfold listK; rw [hkb]; rfl)
          obtain rfl : bz = true := by rw [HBz.out, hz]; unfold lenK; split <;> (try split) <;> rfl
          have HW3 := Lib.hid (HWr.out hkb w3)
          rw [← HLn.out] at HW3
          clear hkb hz
          go_wp2_with (go_at_call 27; refine HW3.out.mono ?_; rintro e w4 ⟨la, lc, rfl, ho4, hx4⟩; have HO4 := Lib.hid ho4; have HX4 := Lib.hid hx4; clear ho4 hx4)
          go_meet
          rw [← HN.out]
          have h := HO4.out
          rw [← HN.out] at h
          exact ⟨la, lc, rfl, h.mono (Nat.le_trans HXr.out.le hx3.le), HX4.out⟩
      case rest =>
        obtain ⟨la, lc, rfl, ho5, hx5⟩ := hcut
        generalize wc = w5 at *
        have HX5 := Lib.hid (HXr.out.trans (hx3.trans hx5))
        have HO5 := Lib.hid (HO.out.ext (hx3.trans hx5))
        have HT5 := Lib.hid (HT.out.ext (hx3.trans hx5))
        have HL5 := Lib.hid ho5
        obtain ⟨hkl, vs, hko, hks⟩ := HT5.out
        have HKl := Lib.hid hkl
        have HKo := Lib.hid hko
        have HKs := Lib.hid hks
        have hle5 := HX5.out.le
        have HSt := Lib.hid (show (List.range (k + 1)).map (listK s bs) = (List.range k).map (listK s bs) ++ [listK s bs k] by rw [List.range_succ, List.map_append]; rfl)
        clear hx5 hx3 ho5 hkl hko hks HO HT HE3 HXr hrr c0 c03 HBz HWr HSz
        go_wp2_with (at_builtin; refine law_append1_at w5 rfl _ _ 54 rfl 42 (.slice none 0 0) 24 und_txts info_txt rfl w1.heap.size ka k kc vs (.slice la N lc) rfl rfl rfl HKo.out hle5 (by omega) (by omega) ?_; intro ka2 kc2 w6 ho6 hb6 hg6 _; have HT6 := Lib.hid (OwnTx.push HKl.out HKs.out HKo.out HL5.out ho6 hg6); have HO6 := Lib.hid (HO5.out.grownT HKo.out hg6 tx_ne); have HL6 := Lib.hid (HL5.out.grownT HKo.out hg6 tx_ne); have HX6 := Lib.hid (Ext.below HX5.out hb6); clear ho6 hb6 hg6)
        have HL0 := Lib.hid (show L = putAll ((allK s bs k ++ (listK s bs k).take 0).filter (chkB C)) by rw [HL.out]; simp)
        obtain ⟨bl, ol, hixl, hcl⟩ := (show Strs w6 la N lc (listK s bs k) from HL6.out.sl).ix (P := Try.prog) 42 9 und_strs cell_str
        clear HL HT5 HO5 HL5 HKo HKs HKl hle5 HX5
        go_loopw [6, 10] (fun u6 u10 wr => ∃ (j : Nat) (L2 : List ByteArray) (wa : Option Addr) (wcp : Nat), j ≤ N ∧ u6 = .slice wa L2.length wcp ∧ u10 = .int .i64 j ∧ Hid (L2 = putAll ((allK s bs k ++ (listK s bs k).take j).filter (chkB C))) ∧ L2.length ≤ k * 1000 + j ∧ Hid (Own wr w1.heap.size 9 wa L2.length wcp (St L2)) ∧ Ext w6 wr) (fun _ u10 _ => N - (intOf u10).toNat)
        case atStart => exact ⟨0, L, wa, wcp, Nat.zero_le _, rfl, rfl, HL0.out, hLl, HO6.out, Ext.refl _⟩
        case round =>
          clear HL0 HO6 hLl
          obtain ⟨j, L2, va, vc, hj, rfl, rfl, HL2, hl2, HO2, hx2⟩ := hrel
          by_cases hjn : j < N
          · have hjl : j < (listK s bs k).length := by rw [← HN.out]; exact hjn
            have hsz : (gs (listK s bs k) j).size ≤ 1048576 := Nat.le_trans ((HLk.out k (by omega)).2 _ (gs_mem hjl)) (by omega)
            have HC := Lib.hid (fun W (h : Ext wr W) => HCk.out (gs (listK s bs k) j) W (hxb1.trans (HX6.out.trans (hx2.trans h))) hsz)
            have HP := Lib.hid (fun W (h : Ext wr W) => spec_putO w1.heap.size va L2.length vc L2 (gs (listK s bs k) j) W (HO2.out.ext h) (by omega) (Nat.le_trans HX6.out.le (Nat.le_trans hx2.le h.le)))
            have hPl := putS_len (gs (listK s bs k) j) L2
            have hrr : Ext wr wr := Ext.refl _
            have hcj := fun W (h : Ext wr W) => hcl j W hjn (hx2.trans h)
            have htk : (listK s bs k).take (j + 1) = (listK s bs k).take j ++ [gs (listK s bs k) j] := take_snoc _ _ j hjl
            cases hck : chkB C (gs (listK s bs k) j)
            · rw [hck] at HC
              have HE := Lib.hid (show L2 = putAll ((allK s bs k ++ (listK s bs k).take (j + 1)).filter (chkB C)) by rw [htk, ← List.append_assoc, List.filter_append, List.filter_cons, hck, HL2.out]; simp)
              clear hck htk hjl hsz
              go_wp2_with (go_at_call 28; refine (HC.out _ (by repeat (first | (with_reducible exact Ext.refl _) | (with_reducible refine Ext.drewN ?_ _) | (with_reducible refine Ext.drew ?_) | (with_reducible refine Ext.alloc ?_ _) | ((with_reducible refine Ext.setCell ?_ ?_ _); rotate_left; focus (first | (simp; done) | (simp; omega) | omega)) | assumption | (with_reducible refine Ext.trans ?_ (by assumption))))).mono ?_; rintro e w7 ⟨rfl, hx7⟩)
              exact ⟨⟨j + 1, L2, va, vc, hjn, rfl, by go_num, HE.out, by omega, HO2.out.ext hx7, hx2.trans hx7⟩, by simp [intOf]; omega⟩
            · rw [hck] at HC
              have HE := Lib.hid (show putS L2 (gs (listK s bs k) j) = putAll ((allK s bs k ++ (listK s bs k).take (j + 1)).filter (chkB C)) by rw [htk, ← List.append_assoc, List.filter_append, List.filter_cons, hck]; simp only [if_true, List.filter_nil]; rw [putAll_snoc, HL2.out])
              clear hck htk hjl hsz
              go_wp2_with (first
                | (go_at_call 28; refine (HC.out _ (by repeat (first | (with_reducible exact Ext.refl _) | (with_reducible refine Ext.drewN ?_ _) | (with_reducible refine Ext.drew ?_) | (with_reducible refine Ext.alloc ?_ _) | ((with_reducible refine Ext.setCell ?_ ?_ _); rotate_left; focus (first | (simp; done) | (simp; omega) | omega)) | assumption | (with_reducible refine Ext.trans ?_ (by assumption))))).mono ?_; rintro e w7 ⟨rfl, hx7⟩)
                | (go_at_call 29; refine (HP.out _ (by repeat (first | (with_reducible exact Ext.refl _) | (with_reducible refine Ext.drewN ?_ _) | (with_reducible refine Ext.drew ?_) | (with_reducible refine Ext.alloc ?_ _) | ((with_reducible refine Ext.setCell ?_ ?_ _); rotate_left; focus (first | (simp; done) | (simp; omega) | omega)) | assumption | (with_reducible refine Ext.trans ?_ (by assumption))))).mono ?_; rintro e w8 ⟨a8, c8, rfl, ho8, hy8⟩; have hx8 : Ext wr w8 := Ext.trans (by repeat (first | (with_reducible exact Ext.refl _) | (with_reducible refine Ext.drewN ?_ _) | (with_reducible refine Ext.drew ?_) | (with_reducible refine Ext.alloc ?_ _) | ((with_reducible refine Ext.setCell ?_ ?_ _); rotate_left; focus (first | (simp; done) | (simp; omega) | omega)) | assumption | (with_reducible refine Ext.trans ?_ (by assumption)))) hy8; have HO8 := Lib.hid ho8; clear ho8 hy8))
              exact ⟨⟨j + 1, _, a8, c8, hjn, rfl, by go_num, HE.out, by omega, HO8.out, hx2.trans hx8⟩, by simp [intOf]; omega⟩
          · have HE := Lib.hid (show putAll ((allK s bs k ++ (listK s bs k).take j).filter (chkB C)) = putAll ((allK s bs (k + 1)).filter (chkB C)) by rw [allK_step, List.take_of_length_le (by rw [← HN.out]; omega)])
            go_wp2_with fail
            exact ⟨⟨k + 1, L2, va, vc, ka2, kc2, by omega, rfl, rfl, by go_num, HL2.out.trans HE.out, by omega, HO2.out, by rw [Hid, HSt.out]; exact HT6.out.ext hx2, HX6.out.trans hx2⟩, by simp [intOf]; omega⟩
    · have hkk : k = 6 := by omega
      have HK6 := Lib.hid hkk
      have hk5 : 5 < k := by omega
      have hL6 : L.length ≤ 6000 := by omega
      clear hk hk6 hkk
      have HX := Lib.hid (HX1.out.trans HXr.out)
      generalize wr = w9 at *
      have hstr : Strs w9 wa L.length wcp L := HO.out.sl
      obtain ⟨bw, ow, hixw, hcw⟩ := hstr.ix (P := Try.prog) 42 9 und_strs cell_str
      obtain ⟨hkl, vs, hko, hks⟩ := HT.out
      have HKs := Lib.hid hks
      obtain ⟨bv, ov, hixv, hcv⟩ := hko.sl.ix (P := Try.prog) 54 42 und_txts cell_txt
      have HLs := Lib.hid (fun x (h : x ∈ L) => show ∃ k, k < 6 ∧ x ∈ listK s bs k by rw [HL.out, mem_putAll, List.mem_filter, HK6.out] at h; exact mem_allK.1 h.1)
      have HQ0 := Lib.hid (own0S (s := 2) w9 59)
      clear hkl hko hks hstr
      go_wp2_with fail
      go_loopw [11, 12] (fun u11 u12 wr => ∃ (i : Nat) (qs : List (ByteArray × Int)) (ad : Option Addr) (cc : Nat), i ≤ L.length ∧ u11 = .slice ad i cc ∧ u12 = .int .i64 i ∧ Hid (qs.length = i) ∧ Hid (qs.map Prod.fst = L.take i) ∧ Hid (∀ p ∈ qs, ∃ k : Nat, p.2 = (k : Int) ∧ k ≤ 5 ∧ p.1 ∈ listK s bs k ∧ ∀ j, j < k → p.1 ∉ listK s bs j) ∧ Hid (OwnS 2 wr w9.heap.size 59 ad i cc (encC qs)) ∧ Ext w9 wr) (fun _ u12 _ => L.length - (intOf u12).toNat)
      case atStart => exact ⟨0, [], _, _, Nat.zero_le _, rfl, rfl, rfl, rfl, (fun p hp => by simp at hp), HQ0.out, (by repeat (first | (with_reducible exact Ext.refl _) | (with_reducible refine Ext.drewN ?_ _) | (with_reducible refine Ext.drew ?_) | (with_reducible refine Ext.alloc ?_ _) | ((with_reducible refine Ext.setCell ?_ ?_ _); rotate_left; focus (first | (simp; done) | (simp; omega) | omega)) | assumption | (with_reducible refine Ext.trans ?_ (by assumption))))⟩
      case round =>
        obtain ⟨i, qs, ad, cc, hi, rfl, rfl, HQl, HQm, HQv, HQ, hx⟩ := hrel
        by_cases hil : i < L.length
        · obtain ⟨k1, hk1, hm1⟩ := HLs.out _ (gs_mem hil)
          have HM := Lib.hid hm1
          have hck := fun W (h : Ext w9 W) => hcw i W hil h
          obtain ⟨t, ht⟩ : ∃ t, t = gs L i := ⟨_, rfl⟩
          have HTt := Lib.hid ht
          simp only [← ht] at HM hck
          clear ht hm1 hcw
          go_wp2_with fail
          generalize wr = w10 at *
          go_loopw [13] (fun u13 wr => ∃ (kk : Nat), kk ≤ k1 ∧ u13 = .int .i64 kk ∧ Hid (∀ j, j < kk → t ∉ listK s bs j) ∧ Ext w10 wr) (fun u13 _ => 6 - (intOf u13).toNat)
          case atStart => exact ⟨0, Nat.zero_le _, rfl, (fun j hj => by omega), Ext.refl _⟩
          case round =>
            obtain ⟨kk, hkk, rfl, HNo, hxk⟩ := hrel
            have hx9 : Ext w9 wr := hx.trans hxk
            obtain ⟨ra, rn, rc, hrv, hro⟩ := HKs.out kk (by omega)
            have hcvk := fun W (h : Ext w9 W) => hcv kk W (by omega) h
            simp only [hrv] at hcvk
            rw [show gS ((List.range k).map (listK s bs)) kk = listK s bs kk by simp [gS, show kk < k by omega]] at hro
            have HR := Lib.hid (show Strs w9 ra rn rc (listK s bs kk) from hro.sl)
            have hrn : rn ≤ 1048576 := by have h1 := hro.len; rw [St_len] at h1; rw [← h1]; exact Nat.le_trans (HLk.out kk (by omega)).1 (by omega)
            have HHas := Lib.hid (fun W (h : Ext w9 W) => spec_hasT ra rn rc (listK s bs kk) t W (HR.out.ext h) hrn)
            clear hrv hro hcv
            have h99 : Ext w9 w9 := Ext.refl _
            have hb1 : (kk : Int) < (k : Int) := by omega
            have hb2 : (i : Int) < (L.length : Int) := by omega
            have hb3 : kk < k := by omega
            cases hh : hasT (listK s bs kk) t
            · rw [hh] at HHas
              have hkn : kk < k1 := by
                rcases Nat.lt_or_ge kk k1 with h | h
                · exact h
                · have e : kk = k1 := by omega
                  rw [e, hasT_iff.2 HM.out] at hh; cases hh
              have HN := Lib.hid (show ∀ j, j < kk + 1 → t ∉ listK s bs j from fun j hj => by
                by_cases e : j < kk
                · exact HNo.out j e
                · obtain rfl : j = kk := by omega
                  intro h; rw [hasT_iff.2 h] at hh; cases hh)
              clear hh
              go_wp2
              (refine wp_region_from w9 (by repeat (first | (with_reducible exact Ext.refl _) | (with_reducible refine Ext.drewN ?_ _) | (with_reducible refine Ext.drew ?_) | (with_reducible refine Ext.alloc ?_ _) | ((with_reducible refine Ext.setCell ?_ ?_ _); rotate_left; focus (first | (simp; done) | (simp; omega) | omega)) | assumption | (with_reducible refine Ext.trans ?_ (by assumption)))) (by kernel_rfl) (by kernel_rfl) (by kernel_rfl) ?_; (repeat (first | (refine mix_q rfl ?_; go_big_quiet_step (fail); refine wpQuiet_nil ?_; show wpMix _ _ _ _ _ _ _) | (refine mix_s rfl ?_; go_wp2_with (((with_reducible refine (HHas.out _ (by repeat (first | (with_reducible exact Ext.refl _) | (with_reducible refine Ext.drewN ?_ _) | (with_reducible refine Ext.drew ?_) | (with_reducible refine Ext.alloc ?_ _) | ((with_reducible refine Ext.setCell ?_ ?_ _); rotate_left; focus (first | (simp; done) | (simp; omega) | omega)) | assumption | (with_reducible refine Ext.trans ?_ (by assumption))))).mono ?_); rintro e w11 ⟨rfl, hy1⟩; have hxw11 : Ext w9 w11 := Ext.trans (by repeat (first | (with_reducible exact Ext.refl _) | (with_reducible refine Ext.drewN ?_ _) | (with_reducible refine Ext.drew ?_) | (with_reducible refine Ext.alloc ?_ _) | ((with_reducible refine Ext.setCell ?_ ?_ _); rotate_left; focus (first | (simp; done) | (simp; omega) | omega)) | assumption | (with_reducible refine Ext.trans ?_ (by assumption)))) hy1; have hxk11 : Ext wr w11 := Ext.trans (by repeat (first | (with_reducible exact Ext.refl _) | (with_reducible refine Ext.drewN ?_ _) | (with_reducible refine Ext.drew ?_) | (with_reducible refine Ext.alloc ?_ _) | ((with_reducible refine Ext.setCell ?_ ?_ _); rotate_left; focus (first | (simp; done) | (simp; omega) | omega)) | assumption | (with_reducible refine Ext.trans ?_ (by assumption)))) hy1; have hz1 := hy1; clear hy1)); first | refine ⟨up_of (by repeat (first | (with_reducible exact Ext.refl _) | (with_reducible refine Ext.drewN ?_ _) | (with_reducible refine Ext.drew ?_) | (with_reducible refine Ext.alloc ?_ _) | ((with_reducible refine Ext.setCell ?_ ?_ _); rotate_left; focus (first | (simp; done) | (simp; omega) | omega)) | assumption | (with_reducible refine Ext.trans ?_ (by assumption)))), ?_⟩ | refine ⟨rfl, rfl, up_of (by repeat (first | (with_reducible exact Ext.refl _) | (with_reducible refine Ext.drewN ?_ _) | (with_reducible refine Ext.drew ?_) | (with_reducible refine Ext.alloc ?_ _) | ((with_reducible refine Ext.setCell ?_ ?_ _); rotate_left; focus (first | (simp; done) | (simp; omega) | omega)) | assumption | (with_reducible refine Ext.trans ?_ (by assumption)))), ?_⟩))); refine mix_nil ?_)
              go_wp2_with fail
              exact ⟨⟨kk + 1, by omega, by go_num, HN.out, hxk.trans hxk11⟩, by simp [intOf]; omega⟩
            · rw [hh] at HHas
              have HIn := Lib.hid (hasT_iff.1 hh)
              clear hh
              have HQr := Lib.hid (OwnS.ext HQ.out hxk)
              have hqe := HQl.out
              go_wp2
              (refine wp_region_from w9 (by repeat (first | (with_reducible exact Ext.refl _) | (with_reducible refine Ext.drewN ?_ _) | (with_reducible refine Ext.drew ?_) | (with_reducible refine Ext.alloc ?_ _) | ((with_reducible refine Ext.setCell ?_ ?_ _); rotate_left; focus (first | (simp; done) | (simp; omega) | omega)) | assumption | (with_reducible refine Ext.trans ?_ (by assumption)))) (by kernel_rfl) (by kernel_rfl) (by kernel_rfl) ?_; (repeat (first | (refine mix_q rfl ?_; go_big_quiet_step (fail); refine wpQuiet_nil ?_; show wpMix _ _ _ _ _ _ _) | (refine mix_s rfl ?_; go_wp2_with (((with_reducible refine (HHas.out _ (by repeat (first | (with_reducible exact Ext.refl _) | (with_reducible refine Ext.drewN ?_ _) | (with_reducible refine Ext.drew ?_) | (with_reducible refine Ext.alloc ?_ _) | ((with_reducible refine Ext.setCell ?_ ?_ _); rotate_left; focus (first | (simp; done) | (simp; omega) | omega)) | assumption | (with_reducible refine Ext.trans ?_ (by assumption))))).mono ?_); rintro e w11 ⟨rfl, hy1⟩; have hxw11 : Ext w9 w11 := Ext.trans (by repeat (first | (with_reducible exact Ext.refl _) | (with_reducible refine Ext.drewN ?_ _) | (with_reducible refine Ext.drew ?_) | (with_reducible refine Ext.alloc ?_ _) | ((with_reducible refine Ext.setCell ?_ ?_ _); rotate_left; focus (first | (simp; done) | (simp; omega) | omega)) | assumption | (with_reducible refine Ext.trans ?_ (by assumption)))) hy1; have hxk11 : Ext wr w11 := Ext.trans (by repeat (first | (with_reducible exact Ext.refl _) | (with_reducible refine Ext.drewN ?_ _) | (with_reducible refine Ext.drew ?_) | (with_reducible refine Ext.alloc ?_ _) | ((with_reducible refine Ext.setCell ?_ ?_ _); rotate_left; focus (first | (simp; done) | (simp; omega) | omega)) | assumption | (with_reducible refine Ext.trans ?_ (by assumption)))) hy1; have hz1 := hy1; clear hy1)); first | refine ⟨up_of (by repeat (first | (with_reducible exact Ext.refl _) | (with_reducible refine Ext.drewN ?_ _) | (with_reducible refine Ext.drew ?_) | (with_reducible refine Ext.alloc ?_ _) | ((with_reducible refine Ext.setCell ?_ ?_ _); rotate_left; focus (first | (simp; done) | (simp; omega) | omega)) | assumption | (with_reducible refine Ext.trans ?_ (by assumption)))), ?_⟩ | refine ⟨rfl, rfl, up_of (by repeat (first | (with_reducible exact Ext.refl _) | (with_reducible refine Ext.drewN ?_ _) | (with_reducible refine Ext.drew ?_) | (with_reducible refine Ext.alloc ?_ _) | ((with_reducible refine Ext.setCell ?_ ?_ _); rotate_left; focus (first | (simp; done) | (simp; omega) | omega)) | assumption | (with_reducible refine Ext.trans ?_ (by assumption)))), ?_⟩))); refine mix_nil ?_)
              have HQ11 := Lib.hid (OwnS.ext HQr.out hxk11)
              have hli : i ≤ 1000000 := by omega
              clear hqe
              go_wp2_with (at_builtin; refine law_appendsS _ rfl _ _ 27 rfl 59 (.agg #[.string .empty, .int .i64 0]) 2 24 und_cands info_cand rfl (by omega) w9.heap.size ad i cc (encC qs) _ 1 1 [.string t, .int .i64 kk] (fun u hu => by simp only [List.mem_cons, List.mem_nil_iff, or_false] at hu; rcases hu with rfl | rfl <;> rfl) rfl rfl (OwnS.ext HQ11.out ((Ext.refl w11).alloc _)) rfl (fun ad0 ha j u hj => lit2_cell w11 _ _ _ ad0 ha j u hj) (fun e => by cases e) (Nat.le_trans hxw11.le ((Ext.refl w11).alloc _).le) (by omega) (by omega) ?_; intro ad2 cc2 w12 ho12 hb12 hg12)
              have hx12 : Ext w9 w12 := Ext.below (hxw11.trans ((Ext.refl w11).alloc (.cells #[.string t, .int .i64 kk] 59))) hb12
              have hk5' : kk ≤ 5 := by omega
              refine ⟨⟨i + 1, qs ++ [(t, (kk : Int))], ad2, cc2, hil, rfl, by go_num, ?_, ?_, ?_, ?_, hx12⟩, by simp [intOf]; omega⟩
              · rw [Hid, List.length_append, HQl.out]; rfl
              · rw [Hid, List.map_append, HQm.out, show L.take (i + 1) = L.take i ++ [gs L i] from take_snoc _ _ i hil, HTt.out]; rfl
              · intro p hp
                rcases List.mem_append.1 hp with hp | hp
                · exact HQv.out p hp
                · rw [List.mem_singleton] at hp; subst hp
                  exact ⟨kk, rfl, hk5', HIn.out, HNo.out⟩
              · have e : encC (qs ++ [(t, (kk : Int))]) = encC qs ++ [Value.string t, .int .i64 kk] := by simp [encC]
                rw [Hid, e]; exact ho12
        · have HF := Lib.hid (show qs.map Prod.fst = putAll ((allK s bs 6).filter (chkB C)) by rw [HQm.out, List.take_of_length_le (by omega), HL.out, HK6.out])
          have hql := HQl.out
          subst hql
          go_wp2_with fail
          go_ret2
          refine RetCd.yes HRun.out (HX.out.trans hx) (OwnS.mono HQ.out HX.out.le) fun bs' hb' => ?_
          have e : bs' = bs := by have := HBs.out; omega
          rw [e]
          exact isC_of HOk.out HV.out.1 HBs.out HV.out.2 HF.out HQv.out
end Go.Proofs.Ytbcfbkhbangeoaa
