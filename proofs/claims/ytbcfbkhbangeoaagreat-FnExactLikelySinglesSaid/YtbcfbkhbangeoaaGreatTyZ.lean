/- Plain: what the reference finds is what the program lays. -/
import Derived.Test.YtbcfbkhbangeoaaGreatTyO
import Derived.Test.YtbcfbkhbangeoaaGreatTyV
import Derived.Test.YtbcfbkhbangeoaaGreatChS
import Derived.Deep.CutBlock
namespace Go.Proofs.YtbcfbkhbangeoaaGreat
set_option maxRecDepth 100000
open Go.RowKit

theorem ty_ba {a b : ByteArray} (h : a.data.toList = b.data.toList) : a = b := ByteArray.ext (Array.toList_inj.1 h)
def tySym (d : Int) : UInt8 := UInt8.ofNat (sym d).toNat
theorem ty_data (ds : List Int) : (textOf ds).data.toList = ds.map tySym := by rw [textOf, strOfNums_data, List.map_map]; rfl
theorem ty_dig_all : ∀ n : Fin 256, 0 ≤ dig (UInt8.ofNat n.val) → tySym (dig (UInt8.ofNat n.val)) = UInt8.ofNat n.val := by decide +kernel
theorem ty_dig (c : UInt8) (h : 0 ≤ dig c) : tySym (dig c) = c := by
  have h1 := ty_dig_all ⟨c.toNat, c.toNat_lt⟩
  simp only [UInt8.ofNat_toNat] at h1
  exact h1 h
theorem ty_sym_all : ∀ m : Fin 36, dig (tySym (m.val : Int)) = (m.val : Int) := by decide +kernel
theorem ty_sym {d : Int} (h0 : 0 ≤ d) (h1 : d ≤ 35) : dig (tySym d) = d := by
  have := ty_sym_all ⟨d.toNat, by omega⟩
  simp only [Int.toNat_of_nonneg h0] at this
  exact this
theorem ty_text {s : ByteArray} {b : Int} {n : Nat} (h : wordB s.data.toList b n = true) : textOf (digC s) = s := by
  unfold wordB at h
  simp only [Bool.and_eq_true, List.all_eq_true, decide_eq_true_eq] at h
  refine ty_ba ?_
  rw [ty_data, digC, digs, List.map_map]
  conv => rhs; rw [← List.map_id s.data.toList]
  refine List.map_congr_left fun c hc => ?_
  exact ty_dig c (inB_t.1 (h.1 c hc)).1
theorem ty_digC {ds : List Int} (h : Dig36 ds) : digC (textOf ds) = ds := by
  unfold digC digs
  rw [ty_data, List.map_map]
  conv => rhs; rw [← List.map_id ds]
  exact List.map_congr_left fun d hd => ty_sym (h d hd).1 (h d hd).2
theorem ty_app (a b : List Int) : textOf (a ++ b) = textOf a ++ textOf b := by
  apply ty_ba
  rw [ty_data, ByteArray.data_append, Array.toList_append, ty_data, ty_data, List.map_append]
theorem ty_cut (ds : List Int) (i j : Nat) : (textOf ds).extract i j = textOf ((ds.take j).drop i) := by
  apply ty_ba
  rw [ByteArray.data_extract, Array.toList_extract, List.extract_eq_take_drop, ty_data, ty_data, List.map_drop, List.map_take, List.drop_take]
theorem ty_ext (s : ByteArray) (i j : Nat) : digC (s.extract i j) = ((digC s).take j).drop i := by
  unfold digC digs
  rw [ByteArray.data_extract, Array.toList_extract, List.extract_eq_take_drop, List.map_take, List.map_drop, List.drop_take]
theorem ty_all (l : List UInt8) (p : Int → Bool) : (l.all fun c => p (dig c)) = (digs l).all p := by
  unfold digs; rw [List.all_map]; rfl
theorem ty_word {ds : List Int} {b : Int} (hb : 2 ≤ b ∧ b ≤ 36) (hd : ∀ d ∈ ds, 0 ≤ d ∧ d < b) (hl : ds.length ≤ 20) : wordB (textOf ds).data.toList b 20 = true := by
  have hd36 : Dig36 ds := fun d h => by have := hd d h; omega
  refine wordB_yes ?_ (inB_t.2 hb) ?_
  · rw [ty_all _ (fun x => inB x 0 (b - 1)), show digs (textOf ds).data.toList = ds from ty_digC hd36, List.all_eq_true]
    intro d h
    have := hd d h
    exact inB_t.2 ⟨by omega, by omega⟩
  · have : (textOf ds).data.toList.length = ds.length := by rw [Array.length_toList]; exact textOf_size ds
    rw [this]; omega
theorem ty_chk {D : Ch} (hok : OkCh D) (hv : validCh D = true) {ds : List Int} (hd : DigC D ds) (hl : ds.length = D.places.length) : chkB D (textOf ds) = chkD D ds := by
  have h20 := hok.p20
  have h36 : Dig36 ds := fun d h => by have := hd d h; have := hok.b36; omega
  have hw : wordCh D (textOf ds) = true := by
    rw [wordCh, ty_word ⟨hok.b2, hok.b36⟩ hd (by omega), textOf_size, hl]; simp
  rw [chk_yes (show runOk D (textOf ds) = true by rw [runOk, hv, hw]; rfl), runEnd, ty_digC h36]; rfl

theorem mem_wrongN {k base m : Nat} {ds d : List Int} : d ∈ wrongN k base ds m ↔ ∃ pl, pl < m ∧ ∃ t', t' ∈ chgL k base ((ds.drop pl).take (lenK k)) ∧ d = ds.take pl ++ t' ++ ds.drop (pl + lenK k) := by
  refine ⟨wrong_mem, ?_⟩
  rintro ⟨pl, hp, t', ht, rfl⟩
  exact List.mem_flatten.2 ⟨_, List.mem_map.2 ⟨pl, List.mem_range.2 hp, rfl⟩, List.mem_map.2 ⟨t', ht, rfl⟩⟩
theorem mem_wrT {s t : ByteArray} {P : List (List Int × List Int)} {sz m : Nat} : t ∈ wrT s P sz m ↔ ∃ i, i < m ∧ ∃ p ∈ P, p.1 = digC (s.extract i (i + sz)) ∧ t = txtW s sz i p := by
  unfold wrT wrI
  constructor
  · intro h
    obtain ⟨l, hl, ht⟩ := List.mem_flatten.1 h
    obtain ⟨i, hi, rfl⟩ := List.mem_map.1 hl
    obtain ⟨p, hp, rfl⟩ := List.mem_map.1 ht
    rw [List.mem_filter] at hp
    exact ⟨i, List.mem_range.1 hi, p, hp.1, by simpa using hp.2, rfl⟩
  · rintro ⟨i, hi, p, hp, he, rfl⟩
    exact List.mem_flatten.2 ⟨_, List.mem_map.2 ⟨i, List.mem_range.2 hi, rfl⟩, List.mem_map.2 ⟨p, List.mem_filter.2 ⟨hp, by simpa using he⟩, rfl⟩⟩
/-- the reference's words of a kind are the program's -/
theorem mem_kind {s t : ByteArray} {b k : Nat} (hk : k ≤ 5) (h5 : k = 5 → 10 ≤ b) {n : Nat} (hw : wordB s.data.toList (b : Int) n = true) :
    t ∈ wrT s (wrP k b b) (lenK k) (s.size + 1 - lenK k) ↔ ∃ d ∈ wrongL k b (digC s), t = textOf d := by
  have hst := ty_text hw
  have hdg : ∀ x ∈ digC s, 0 ≤ x ∧ x < (b : Int) := fun x hx => by
    unfold wordB at hw
    simp only [Bool.and_eq_true, List.all_eq_true, decide_eq_true_eq] at hw
    obtain ⟨c, hc, rfl⟩ := List.mem_map.1 hx
    have := inB_t.1 (hw.1 c hc)
    omega
  have hsz : (digC s).length = s.size := digC_len s
  have htx : ∀ i p, i + lenK k ≤ s.size → txtW s (lenK k) i p = textOf ((digC s).take i ++ p.2 ++ (digC s).drop (i + lenK k)) := fun i p hi => by
    rw [ty_app, ty_app]
    have e1 : s.extract 0 i = textOf ((digC s).take i) := by
      conv => lhs; rw [← hst]
      rw [ty_cut]; rfl
    have e2 : s.extract (i + lenK k) s.size = textOf ((digC s).drop (i + lenK k)) := by
      conv => lhs; rw [← hst]
      rw [ty_cut, textOf_size, List.take_of_length_le (Nat.le_refl _)]
    unfold txtW
    rw [e1, e2]
  have hdi : ∀ i, digC (s.extract i (i + lenK k)) = ((digC s).drop i).take (lenK k) := fun i => by
    rw [ty_ext, List.drop_take, show i + lenK k - i = lenK k by omega]
  have hfl : ∀ i, i + lenK k ≤ s.size → (((digC s).drop i).take (lenK k)).length = lenK k := fun i hi => by rw [List.length_take, List.length_drop]; omega
  have hfd : ∀ i, ∀ x ∈ ((digC s).drop i).take (lenK k), 0 ≤ x ∧ x < (b : Int) := fun i x hx => hdg x (List.mem_of_mem_drop (List.mem_of_mem_take hx))
  have hk1 : 1 ≤ lenK k := by unfold lenK; split <;> (try split) <;> omega
  rw [mem_wrT]
  unfold wrongL
  constructor
  · rintro ⟨i, hi, p, hp, he, rfl⟩
    have hi' : i + lenK k ≤ s.size := by omega
    rw [hdi] at he
    refine ⟨_, mem_wrongN.2 ⟨i, by omega, p.2, ?_, rfl⟩, htx i p hi'⟩
    exact (wrP_chg hk h5 (hfd i) (hfl i hi')).1 (by rw [← he]; exact hp)
  · rintro ⟨d, hd, rfl⟩
    obtain ⟨i, hi, t', ht', rfl⟩ := mem_wrongN.1 hd
    have hi' : i + lenK k ≤ s.size := by omega
    refine ⟨i, by omega, (((digC s).drop i).take (lenK k), t'), (wrP_chg hk h5 (hfd i) (hfl i hi')).2 ht', (hdi i).symm, ?_⟩
    rw [htx i _ hi']
/-- the words of a kind -/
def listK (s : ByteArray) (b k : Nat) : List ByteArray := if kindB k b then putAll (wrT s (wrP k b b) (lenK k) (s.size + 1 - lenK k)) else []
def allK (s : ByteArray) (b m : Nat) : List ByteArray := ((List.range m).map (listK s b)).flatten
theorem allK_step (s : ByteArray) (b m : Nat) : allK s b (m + 1) = allK s b m ++ listK s b m := by unfold allK; rw [List.range_succ, List.map_append, List.flatten_append]; simp
theorem mem_allK {s t : ByteArray} {b m : Nat} : t ∈ allK s b m ↔ ∃ k, k < m ∧ t ∈ listK s b k := by
  unfold allK
  constructor
  · intro h
    obtain ⟨l, hl, ht⟩ := List.mem_flatten.1 h
    obtain ⟨k, hk, rfl⟩ := List.mem_map.1 hl
    exact ⟨k, List.mem_range.1 hk, ht⟩
  · rintro ⟨k, hk, ht⟩
    exact List.mem_flatten.2 ⟨_, List.mem_map.2 ⟨k, List.mem_range.2 hk, rfl⟩, ht⟩
theorem mem_rowK {D : Ch} (hok : OkCh D) (hv : validCh D = true) {b : Nat} (hb : D.base = (b : Int)) {s : ByteArray} (hw : wordCh D s = true) {k : Nat} (hk : k ≤ 5) {t : ByteArray} :
    t ∈ (rowK D b (digC s) k).map Prod.fst ↔ t ∈ listK s b k ∧ chkB D t = true := by
  obtain ⟨hd, hl⟩ := word_facts hw
  have hwb : wordB s.data.toList (b : Int) 20 = true := by
    unfold wordCh at hw
    rw [Bool.and_eq_true] at hw
    rw [← hb]; exact hw.1
  unfold rowK listK
  cases hkb : kindB k (b : Int)
  · simp
  · have h5 : k = 5 → 10 ≤ b := fun e => by subst e; simp [kindB] at hkb; omega
    have h5' : k ≤ 4 ∨ 10 ≤ b := by
      rcases Nat.lt_or_ge k 5 with h | h
      · exact Or.inl (by omega)
      · exact Or.inr (h5 (by omega))
    have hdg : ∀ d ∈ wrongL k b (digC s), d.length = D.places.length ∧ DigC D d := fun d hd' => by
      obtain ⟨h1, h2⟩ := wrong_dig (fun x hx => by have := hd x hx; omega) h5' hd'
      exact ⟨h1.trans hl, fun x hx => by have := h2 x hx; omega⟩
    simp only [if_true, mem_putAll]
    rw [mem_kind hk h5 hwb]
    unfold putsK
    rw [List.take_of_length_le (Nat.le_refl _), List.map_map, List.mem_map]
    constructor
    · rintro ⟨d, hd', rfl⟩
      rw [List.mem_filter] at hd'
      obtain ⟨h1, h2⟩ := hdg d hd'.1
      exact ⟨⟨d, hd'.1, rfl⟩, by show chkB D (textOf d) = true; rw [ty_chk hok hv h2 h1]; exact hd'.2⟩
    · rintro ⟨⟨d, hd', rfl⟩, hc⟩
      obtain ⟨h1, h2⟩ := hdg d hd'
      rw [ty_chk hok hv h2 h1] at hc
      exact ⟨d, List.mem_filter.2 ⟨hd', hc⟩, rfl⟩
theorem valK_app (L L' : List (ByteArray × Int)) (t : ByteArray) (z : Int) : valK (L ++ L') t z = valK L' t (valK L t z) := by unfold valK; rw [List.foldl_append]
theorem valK_const {L : List (ByteArray × Int)} {v : Int} (h : ∀ p ∈ L, p.2 = v) {t : ByteArray} (ht : t ∈ L.map Prod.fst) (z : Int) : valK L t z = v := by
  induction L generalizing z with
  | nil => simp at ht
  | cons p r ih =>
    have e : valK (p :: r) t z = valK r t (if p.1 = t then p.2 else z) := rfl
    rw [e]
    by_cases hr : t ∈ r.map Prod.fst
    · exact ih (fun q hq => h q (List.mem_cons_of_mem _ hq)) hr _
    · rw [valK_not hr]
      rw [List.map_cons, List.mem_cons] at ht
      rcases ht with ht | ht
      · rw [if_pos ht.symm]; exact h p (by simp)
      · exact absurd ht hr
theorem rowK_val {D : Ch} {b : Nat} {ds : List Int} {k : Nat} : ∀ p ∈ rowK D b ds k, p.2 = (k : Int) := fun p hp => by
  unfold rowK at hp
  split at hp
  · unfold putsK at hp
    obtain ⟨d, _, rfl⟩ := List.mem_map.1 hp
    rfl
  · cases hp
theorem val_least {D : Ch} {b : Nat} {ds : List Int} {t : ByteArray} {k : Nat} (hk : k ≤ 5) (h : t ∈ (rowK D b ds k).map Prod.fst) (hl : ∀ j, j < k → t ∉ (rowK D b ds j).map Prod.fst) (z : Int) : ∀ n m, k = m + n → valK (putsF D b ds m) t z = (k : Int)
  | 0, m, e => by
    subst e
    rw [putsF_step D b ds hk, valK_app]
    exact valK_const rowK_val h _
  | n + 1, m, e => by
    rw [putsF_step D b ds (by omega), valK_app, valK_not (hl m (by omega))]
    exact val_least hk h hl z n (m + 1) (by omega)
theorem mem_putsF {D : Ch} {b : Nat} {ds : List Int} {t : ByteArray} : t ∈ (putsF D b ds 0).map Prod.fst ↔ ∃ k, k ≤ 5 ∧ t ∈ (rowK D b ds k).map Prod.fst := by
  unfold putsF
  simp only [List.mem_map, List.mem_flatten]
  constructor
  · rintro ⟨p, ⟨l, ⟨r, hr, rfl⟩, hp⟩, rfl⟩
    exact ⟨5 - r, by omega, p, hp, rfl⟩
  · rintro ⟨k, hk, p, hp, rfl⟩
    exact ⟨p, ⟨_, ⟨5 - k, List.mem_range.2 (by omega), rfl⟩, by rw [show 5 - (5 - k) = k by omega]; exact hp⟩, rfl⟩
/-- the reference's candidates: the words of all kinds that are checked, each with its least kind -/
theorem isC_of {D : Ch} (hok : OkCh D) (hv : validCh D = true) {b : Nat} (hb : D.base = (b : Int)) {s : ByteArray} (hw : wordCh D s = true) {qs : List (ByteArray × Int)}
    (hq : qs.map Prod.fst = putAll ((allK s b 6).filter (chkB D))) (hl : ∀ p ∈ qs, ∃ k : Nat, p.2 = (k : Int) ∧ k ≤ 5 ∧ p.1 ∈ listK s b k ∧ ∀ j, j < k → p.1 ∉ listK s b j) : IsC (putsF D b (digC s) 0) qs := by
  have hasc : ascS (qs.map Prod.fst) := by rw [hq]; exact putAll_asc _
  have hval : ∀ p ∈ qs, p.1 ∈ (putsF D b (digC s) 0).map Prod.fst ∧ p.2 = valK (putsF D b (digC s) 0) p.1 0 := fun p hp => by
    obtain ⟨k, e, hk, h1, h2⟩ := hl p hp
    have hm : p.1 ∈ putAll ((allK s b 6).filter (chkB D)) := by rw [← hq]; exact List.mem_map.2 ⟨p, hp, rfl⟩
    rw [mem_putAll, List.mem_filter] at hm
    have hr : p.1 ∈ (rowK D b (digC s) k).map Prod.fst := (mem_rowK hok hv hb hw hk).2 ⟨h1, hm.2⟩
    exact ⟨mem_putsF.2 ⟨k, hk, hr⟩, by rw [val_least hk hr (fun j hj hn => h2 j hj ((mem_rowK hok hv hb hw (by omega)).1 hn).1) 0 k 0 (by omega)]; exact e⟩
  refine ⟨List.pairwise_map.1 hasc, fun t v => ⟨fun h => hval _ h, ?_⟩⟩
  rintro ⟨h, rfl⟩
  obtain ⟨k, hk, hr⟩ := mem_putsF.1 h
  obtain ⟨h1, h2⟩ := (mem_rowK hok hv hb hw hk).1 hr
  have hm : t ∈ qs.map Prod.fst := by rw [hq, mem_putAll, List.mem_filter]; exact ⟨mem_allK.2 ⟨k, by omega, h1⟩, h2⟩
  obtain ⟨p, hp, rfl⟩ := List.mem_map.1 hm
  rw [← (hval p hp).2]; exact hp
end Go.Proofs.YtbcfbkhbangeoaaGreat

/- Walks: spec.CandidatesFor. -/
namespace Go.Proofs.YtbcfbkhbangeoaaGreat
set_option maxRecDepth 100000
open Go.RowKit

def NoneT (p : ByteArray → Bool) (l : List ByteArray) : Prop := ∀ x ∈ l, p x = false
theorem NoneT.stepS {p : ByteArray → Bool} {l : List ByteArray} {k : Nat} (hk : k < l.length) (hc : p (gs l k) = false) (h : NoneT p (l.take k)) : NoneT p (l.take (k + 1)) := by
  have e : l.take (k + 1) = l.take k ++ [gs l k] := take_snoc l _ k hk
  intro x hx
  rw [e, List.mem_append] at hx
  rcases hx with hx | hx
  · exact h x hx
  · rw [List.mem_singleton] at hx; subst hx; exact hc
def hasT (l : List ByteArray) (s : ByteArray) : Bool := l.any fun x => s.toList == x.toList
theorem hasT_iff {l : List ByteArray} {s : ByteArray} : hasT l s = true ↔ s ∈ l := by
  unfold hasT
  rw [List.any_eq_true]
  constructor
  · rintro ⟨x, hx, he⟩; rw [bs_iff.1 he]; exact hx
  · intro h; exact ⟨s, h, by simp⟩
theorem nodup_le' {α : Type} [BEq α] [LawfulBEq α] : ∀ {l l' : List α}, l.Nodup → (∀ x ∈ l, x ∈ l') → l.length ≤ l'.length
  | [], _, _, _ => by simp
  | a :: l, l', hn, hs => by
    rw [List.nodup_cons] at hn
    have ha := hs a (by simp)
    have h := nodup_le' (l := l) (l' := l'.erase a) hn.2 fun x hx => (List.mem_erase_of_ne (fun e => by subst e; exact hn.1 hx)).2 (hs x (List.mem_cons_of_mem _ hx))
    rw [List.length_erase_of_mem ha] at h
    have := List.length_pos_of_mem ha
    simp; omega
theorem nodup_le {l l' : List ByteArray} (hn : l.Nodup) (hs : ∀ x ∈ l, x ∈ l') : l.length ≤ l'.length := by
  have h := nodup_le' (l := l.map fun x => x.data.toList) (l' := l'.map fun x => x.data.toList) (by
    rw [List.nodup_iff_pairwise_ne, List.pairwise_map]
    exact (List.nodup_iff_pairwise_ne.1 hn).imp fun h e => h (ty_ba e)) (fun x hx => by
    obtain ⟨y, hy, rfl⟩ := List.mem_map.1 hx
    exact List.mem_map.2 ⟨y, hs y hy, rfl⟩)
  simpa using h
theorem asc_nodup {l : List ByteArray} (h : ascS l) : l.Nodup := h.imp fun h e => by subst e; rw [less_irrefl] at h; cases h
theorem listK_mem {D : Ch} {b : Nat} (hb : D.base = (b : Int)) {s : ByteArray} (hw : wordCh D s = true) {k : Nat} (hk : k ≤ 5) {t : ByteArray} (h : t ∈ listK s b k) : ∃ d ∈ wrongL k b (digC s), t = textOf d := by
  have hwb : wordB s.data.toList (b : Int) 20 = true := by
    unfold wordCh at hw
    rw [Bool.and_eq_true] at hw
    rw [← hb]; exact hw.1
  unfold listK at h
  cases hkb : kindB k (b : Int)
  · rw [hkb] at h; simp at h
  · rw [hkb] at h
    have h5 : k = 5 → 10 ≤ b := fun e => by subst e; simp [kindB] at hkb; omega
    simp only [if_true, mem_putAll] at h
    exact (mem_kind hk h5 hwb).1 h
theorem listK_asc (s : ByteArray) (b k : Nat) : ascS (listK s b k) := by
  unfold listK; split
  · exact putAll_asc _
  · exact List.Pairwise.nil
theorem listK_facts {D : Ch} (hok : OkCh D) {b : Nat} (hb : D.base = (b : Int)) {s : ByteArray} (hw : wordCh D s = true) {k : Nat} (hk : k ≤ 5) : (listK s b k).length ≤ 1000 ∧ ∀ t ∈ listK s b k, t.size ≤ 20 := by
  obtain ⟨hd, hl⟩ := word_facts hw
  have h20 := hok.p20
  have hb36 : b ≤ 36 := by have := hok.b36; omega
  constructor
  · have h1 := nodup_le (asc_nodup (listK_asc s b k)) (l' := (wrongL k b (digC s)).map textOf) fun x hx => by
      obtain ⟨d, hd, rfl⟩ := listK_mem hb hw hk hx; exact List.mem_map.2 ⟨d, hd, rfl⟩
    rw [List.length_map] at h1
    exact Nat.le_trans h1 (wrongL_le k b _ hb36 (by omega))
  · intro t ht
    obtain ⟨d, hd', rfl⟩ := listK_mem hb hw hk ht
    have hkb : kindB k (b : Int) = true := by
      cases h : kindB k (b : Int)
      · unfold listK at ht; rw [h] at ht; simp at ht
      · rfl
    have h5 : k ≤ 4 ∨ 10 ≤ b := by
      simp only [kindB, Bool.or_eq_true, decide_eq_true_eq] at hkb
      omega
    rw [textOf_size, (wrong_dig (fun x hx => by have := hd x hx; omega) h5 hd').1]; omega
end Go.Proofs.YtbcfbkhbangeoaaGreat

/- Walks: spec.CandidatesFor. -/
namespace Go.Proofs.YtbcfbkhbangeoaaGreat
set_option maxRecDepth 100000
open Go.RowKit

theorem cand_start (w1 : World) : Own ((w1.alloc (.cells #[] 9)).alloc (.cells #[] 35)) w1.heap.size 9 (some ⟨w1.heap.size, 0, none⟩) 0 0 (St []) ∧ OwnTx ((w1.alloc (.cells #[] 9)).alloc (.cells #[] 35)) w1.heap.size (some ⟨w1.heap.size + 1, 0, none⟩) 0 0 [] ∧ Ext w1 ((w1.alloc (.cells #[] 9)).alloc (.cells #[] 35)) := by
  have hx : Ext w1 (w1.alloc (.cells #[] 9)) := (Ext.refl w1).alloc _
  have hs : (w1.alloc (.cells #[] 9)).heap.size = w1.heap.size + 1 := by simp
  have h2 := (OwnTx.lit0 (w1.alloc (.cells #[] 9))).mono hx.le
  rw [hs] at h2
  exact ⟨(Own.lit0 w1 _).ext ((Ext.refl _).alloc _), h2, hx.alloc _⟩
end Go.Proofs.YtbcfbkhbangeoaaGreat
