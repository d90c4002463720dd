/- Plain and walks: what errors of a kind make of a word; the wrong words, in the program. Conditions: none. -/
import Derived.Test.YtccoopnoakhedaaTyD
import Derived.Test.YtccoopnoakhedaaCmp
import Derived.Test.YtccoopnoakhedaaRankM
import Derived.Test.YtccoopnoakhedaaChg
namespace Go.Proofs.Ytccoopnoakhedaa
set_option maxRecDepth 100000
open Go.RowKit

theorem eachTo_iff {x0 : Int} {mk : Int → List Int} {b : Nat} {l : List Int} : l ∈ eachTo x0 mk b ↔ ∃ k : Nat, k < b ∧ (k : Int) ≠ x0 ∧ l = mk k := by
  refine ⟨eachTo_mem, ?_⟩
  rintro ⟨k, h1, h2, rfl⟩
  unfold eachTo
  exact List.mem_map.2 ⟨k, List.mem_filter.2 ⟨List.mem_range.2 h1, by simp [h2]⟩, rfl⟩
theorem eachTo_int {x0 : Int} {mk : Int → List Int} {b : Nat} {x : Int} (h0 : 0 ≤ x) (h1 : x < b) (hne : x ≠ x0) : mk x ∈ eachTo x0 mk b := by
  obtain ⟨k, rfl⟩ := Int.eq_ofNat_of_zero_le h0
  exact eachTo_iff.2 ⟨k, by omega, hne, rfl⟩
theorem len_two {l : List Int} (h : l.length = 2) : ∃ x y, l = [x, y] := match l, h with | [x, y], _ => ⟨x, y, rfl⟩
theorem len_three {l : List Int} (h : l.length = 3) : ∃ x y z, l = [x, y, z] := match l, h with | [x, y, z], _ => ⟨x, y, z, rfl⟩
theorem chg_sym {k base : Nat} {f t : List Int} (hf : ∀ x ∈ f, 0 ≤ x ∧ x < (base : Int)) (hl : f.length = lenK k) (hk : k ≤ 5) (h : t ∈ chgL k base f) : f ∈ chgL k base t := by
  have h6 : k = 0 ∨ k = 1 ∨ k = 2 ∨ k = 3 ∨ k = 4 ∨ k = 5 := by omega
  rcases h6 with rfl | rfl | rfl | rfl | rfl | rfl
  · obtain ⟨x, rfl⟩ := List.length_eq_one_iff.1 (show f.length = 1 from hl)
    have hx := hf x (by simp)
    simp only [chgL, if_true] at h ⊢
    obtain ⟨y, hy, hne, rfl⟩ := eachTo_mem h
    exact eachTo_int (mk := fun b => [b]) hx.1 hx.2 (fun e => hne (by simp [gi] at e ⊢; omega))
  · obtain ⟨x, y, rfl⟩ := len_two (show f.length = 2 from hl)
    have e : chgL 1 base [x, y] = if x = y then [] else [[y, x]] := rfl
    rw [e] at h
    split at h
    · cases h
    · rename_i hne
      rw [List.mem_singleton] at h; subst h
      have e2 : chgL 1 base [y, x] = if y = x then [] else [[x, y]] := rfl
      rw [e2, if_neg (fun e => hne e.symm)]; simp
  · obtain ⟨x, m, y, rfl⟩ := len_three (show f.length = 3 from hl)
    have e : chgL 2 base [x, m, y] = if x = y then [] else [[y, m, x]] := rfl
    rw [e] at h
    split at h
    · cases h
    · rename_i hne
      rw [List.mem_singleton] at h; subst h
      have e2 : chgL 2 base [y, m, x] = if y = x then [] else [[x, m, y]] := rfl
      rw [e2, if_neg (fun e => hne e.symm)]; simp
  · obtain ⟨x, y, rfl⟩ := len_two (show f.length = 2 from hl)
    have hx := hf x (by simp)
    have e : chgL 3 base [x, y] = if x = y then eachTo x (fun b => [b, b]) base else [] := rfl
    rw [e] at h
    split at h
    · rename_i he
      subst he
      obtain ⟨z, hz, hne, rfl⟩ := eachTo_mem h
      have e2 : chgL 3 base [(z : Int), z] = if (z : Int) = z then eachTo z (fun b => [b, b]) base else [] := rfl
      rw [e2, if_pos rfl]
      exact eachTo_int (mk := fun b => [b, b]) hx.1 hx.2 (fun e => hne e.symm)
    · cases h
  · obtain ⟨x, m, y, rfl⟩ := len_three (show f.length = 3 from hl)
    have hx := hf x (by simp)
    have e : chgL 4 base [x, m, y] = if x = y then eachTo x (fun b => [b, m, b]) base else [] := rfl
    rw [e] at h
    split at h
    · rename_i he
      subst he
      obtain ⟨z, hz, hne, rfl⟩ := eachTo_mem h
      have e2 : chgL 4 base [(z : Int), m, z] = if (z : Int) = z then eachTo z (fun b => [b, m, b]) base else [] := rfl
      rw [e2, if_pos rfl]
      exact eachTo_int (mk := fun b => [b, m, b]) hx.1 hx.2 (fun e => hne e.symm)
    · cases h
  · obtain ⟨x, y, rfl⟩ := len_two (show f.length = 2 from hl)
    have e : ∀ x y : Int, chgL 5 base [x, y] = if y = 0 ∧ 2 ≤ x ∧ x ≤ 9 then [[1, x]] else if x = 1 ∧ 2 ≤ y ∧ y ≤ 9 then [[y, 0]] else [] := fun _ _ => rfl
    rw [e] at h
    split at h
    · rename_i he
      rw [List.mem_singleton] at h; subst h
      rw [e, if_neg (by omega), if_pos (by omega), he.1]; simp
    · split at h
      · rename_i he
        rw [List.mem_singleton] at h; subst h
        rw [e, if_pos (by omega), he.1]; simp
      · cases h
theorem wrong_iff {k base : Nat} {ds t : List Int} : t ∈ wrongL k base ds ↔ ∃ pl, pl < ds.length + 1 - lenK k ∧ ∃ t', t' ∈ chgL k base ((ds.drop pl).take (lenK k)) ∧ t = ds.take pl ++ t' ++ ds.drop (pl + lenK k) := by
  refine ⟨wrong_mem, ?_⟩
  rintro ⟨pl, h1, t', h2, rfl⟩
  unfold wrongL wrongN wrongR
  exact List.mem_flatten.2 ⟨_, List.mem_map.2 ⟨pl, List.mem_range.2 h1, rfl⟩, List.mem_map.2 ⟨t', h2, rfl⟩⟩
theorem wrong_sym {k base : Nat} {ds t : List Int} (hd : ∀ x ∈ ds, 0 ≤ x ∧ x < (base : Int)) (hk : k ≤ 5) (h : t ∈ wrongL k base ds) : ds ∈ wrongL k base t := by
  obtain ⟨pl, hp, t', ht', rfl⟩ := wrong_iff.1 h
  have hk1 : 1 ≤ lenK k := by unfold lenK; split <;> (try split) <;> omega
  have hfl : ((ds.drop pl).take (lenK k)).length = lenK k := by rw [List.length_take, List.length_drop]; omega
  have hl := chgL_len hfl ht'
  have hs := chg_sym (fun y hy => hd y (List.mem_of_mem_drop (List.mem_of_mem_take hy))) hfl hk ht'
  have hpl : (ds.take pl).length = pl := by rw [List.length_take]; omega
  have e1 : (ds.take pl ++ t' ++ ds.drop (pl + lenK k)).take pl = ds.take pl := by
    rw [List.append_assoc]
    exact List.take_left' hpl
  have e2 : (ds.take pl ++ t' ++ ds.drop (pl + lenK k)).drop (pl + lenK k) = ds.drop (pl + lenK k) :=
    List.drop_left' (by rw [List.length_append, hpl, hl])
  have e3 : ((ds.take pl ++ t' ++ ds.drop (pl + lenK k)).drop pl).take (lenK k) = t' := by
    rw [List.append_assoc, List.drop_left' hpl]
    exact List.take_left' hl
  refine wrong_iff.2 ⟨pl, by rw [List.length_append, List.length_append, hpl, hl, List.length_drop]; omega, _, by rw [e3]; exact hs, ?_⟩
  rw [e1, e2, show ds.drop (pl + lenK k) = (ds.drop pl).drop (lenK k) by rw [List.drop_drop], List.append_assoc, List.take_append_drop, List.take_append_drop]
/-- the wrong words of a kind -/
def wwL (k base : Nat) (s : ByteArray) : List ByteArray := ordS ((wrongL k base (digC s)).map textOf)
def wwB (k base : Nat) (s : ByteArray) : Bool := wordB s.data.toList base 20 && kindB k base
theorem wwL_mem {k base : Nat} {ds : List Int} (h : Dig36 ds) {x : ByteArray} : x ∈ wwL k base (textOf ds) ↔ ∃ t, t ∈ wrongL k base ds ∧ x = textOf t := by
  unfold wwL
  rw [mem_ordS, digC_text h, List.mem_map]
  exact ⟨fun ⟨t, h1, h2⟩ => ⟨t, h1, h2.symm⟩, fun ⟨t, h1, h2⟩ => ⟨t, h1, h2.symm⟩⟩
theorem wwL_len {k base : Nat} {s : ByteArray} (hb : base ≤ 36) (hs : s.size ≤ 20) : (wwL k base s).length ≤ 1000 := by
  have h1 := wrongL_le k base (digC s) hb (by rw [digC_len]; exact hs)
  unfold wwL
  rw [ordS_len]
  have := ordK_le ((wrongL k base (digC s)).map textOf)
  rw [List.length_map] at this
  omega
theorem chkD_chk {D : Ch} (hok : OkCh D) (hv : validCh D = true) {ds : List Int} (hd : DigC D ds) (hl : ds.length = D.places.length) : chkB D (textOf ds) = chkD D ds := by
  rw [chkB_text hok hv hd hl]
  unfold chkD
  rw [Bool.eq_iff_iff]; simp
end Go.Proofs.Ytccoopnoakhedaa

/- Walks: the wrong words of a word, in the program. -/
namespace Go.Proofs.Ytccoopnoakhedaa
set_option maxRecDepth 100000
open Go.RowKit

/-- a captured variable that holds a row of texts of the call's own -/
structure TxI (w0 : World) (p : Nat) (l : List ByteArray) (W : World) : Prop where
  ex : Ext w0 W
  row : ∃ g cc, VarAt W p 37 (.slice (some ⟨g, 0, none⟩) l.length cc) ∧ Own W w0.heap.size 9 (some ⟨g, 0, none⟩) l.length cc (St l)
theorem TxI.ext {w0 : World} {p : Nat} {l : List ByteArray} {W W' : World} (h : TxI w0 p l W) (hx : Ext W W') : TxI w0 p l W' := by
  obtain ⟨g, cc, h1, h2⟩ := h.row
  exact ⟨h.ex.trans hx, g, cc, h1.ext hx, h2.ext hx⟩
/-- the blocks that the callback changes -/
def MineT (p : Nat) (W : World) (b : Nat) : Prop := b = p ∨ ∃ a n c, VarAt W p 37 (.slice (some a) n c) ∧ a.block = b
theorem varAt_inj {W : World} {q : Nat} {T T' : TypeId} {v v' : Value} (h : VarAt W q T v) (h' : VarAt W q T' v') : v = v' := by
  unfold VarAt at h h'
  rw [h] at h'
  injection h' with h'
  injection h' with h1
  simpa using h1
theorem TxI.back {w0 : World} {p : Nat} {l : List ByteArray} {W W' : World} (h : TxI w0 p l W) (hx : Ext W W') (b : Nat) (hm : MineT p W' b) : MineT p W b := by
  rcases hm with rfl | ⟨a, n, c, h1, rfl⟩
  · exact .inl rfl
  · obtain ⟨g, cc, h2, _⟩ := h.row
    have e := varAt_inj h1 (h2.ext hx)
    rw [e] at h1
    injection e with e1 e2 e3
    injection e1 with e1
    subst e1
    exact .inr ⟨_, _, _, h2, rfl⟩
theorem TxI.lt {w0 : World} {p : Nat} {l : List ByteArray} {W : World} (h : TxI w0 p l W) (b : Nat) (hm : MineT p W b) : b < W.heap.size := by
  obtain ⟨g, cc, h2, h3⟩ := h.row
  rcases hm with rfl | ⟨a, n, c, h1, rfl⟩
  · exact h2.lt
  · have e := varAt_inj h1 h2
    injection e with e1 e2 e3
    injection e1 with e1
    subst e1
    exact h3.lt.2
set_option maxHeartbeats 4000000 in
theorem wrongW_step (w0 : World) (p : Nat) (hp : w0.heap.size ≤ p) (l : List ByteArray) (hl : l.length ≤ 1048576) (W : World) (ta : Option Addr) (tn tc : Nat) (to' : List Int) (h36 : Dig36 to') (htn : tn ≤ 64) (hi : TxI w0 p l W) (ht : Ints W ta tn tc to') :
    Calls Try.prog 51 (#[.slice ta tn tc] ++ #[.pointer (some ⟨p, 0, none⟩)]) W
      (fun e w' => e = .returned (.tuple #[]) ∧ TxI w0 p (l ++ [textOf to']) w' ∧ W.heap.size ≤ w'.heap.size ∧ ∀ b, b < W.heap.size → ¬ MineT p W b → w'.heap[b]? = W.heap[b]? ∧ ¬ MineT p w' b) := by
  have HWo := Lib.hid (fun W' (h : Ext W W') => impl_wordOf ta tn tc to' W' (ht.ext h) h36 (by omega))
  have HI := Lib.hid hi
  obtain ⟨g, cc, hv, ho⟩ := hi.row
  have hx := hi.ex
  have HV := Lib.hid hv
  have HO := Lib.hid ho
  have hpl := hv.lt
  have hgp : g ≠ p := ho.ne_var hv (by decide) _ rfl
  have hgl := ho.lt
  have hs0 := hx.le
  obtain ⟨n, hn⟩ : ∃ n, n = l.length := ⟨_, rfl⟩
  have HN := Lib.hid hn
  rw [← hn] at HV HO hl
  clear hi hv ho ht h36 hn
  have hWW : Ext W W := Ext.refl _
  obtain ⟨C0, hC0⟩ : ∃ C : World → Prop, C = fun w' => Ext w0 w' ∧ VarAt w' p 37 (.slice (some ⟨g, 0, none⟩) n cc) := ⟨_, rfl⟩
  have hin : C0 W.drew := by rw [hC0]; exact ⟨hx.drew, HV.out⟩
  have hpk : ∀ x, Ext w0 (World.pk C0 W.drew x) ∧ VarAt (World.pk C0 W.drew x) p 37 (.slice (some ⟨g, 0, none⟩) n cc) := fun x => by have := pk_in hin x; rw [hC0] at this; rw [hC0]; exact this
  have k3 : ∀ x, (World.pk C0 W.drew x).cell? ⟨p, 0, none⟩ = some (.slice (some ⟨g, 0, none⟩) n cc) := fun x => (hpk x).2.cell
  have Hhpk := Lib.hid hpk; clear hpk; have Hhin := Lib.hid hin; clear hin; have HhC0 := Lib.hid hC0; clear hC0
  go_enter Try.func51, Try.ntmps51
  go_wp2_with fail
  refine wp_region_pk C0 5 Hhin.out rfl (by kernel_rfl) (by kernel_rfl) (by kernel_rfl) (by kernel_rfl) ?_
  simp only [List.take_succ_cons, List.take_zero, List.drop_succ_cons, List.drop_zero]
  (repeat (first | (refine mix_q rfl ?_; go_big_quiet_step (fail); refine wpQuiet_nil ?_; show wpMix _ _ _ _ _ _ _) | (refine mix_s rfl ?_; go_wp2_with (first | (go_at_call 24; (with_reducible refine (HWo.out _ (by repeat (first | (with_reducible exact Ext.refl _) | (with_reducible assumption) | (with_reducible refine Ext.drewN ?_ _) | (with_reducible refine Ext.drew ?_) | (with_reducible refine Ext.alloc ?_ _) | ((with_reducible refine Ext.setCell ?_ ?_ _); rotate_left; focus (first | (simp; done) | (simp; omega) | omega)) | (with_reducible refine Ext.trans ?_ (by with_reducible assumption))))).mono ?_); rintro e w2 ⟨rfl, hy2⟩; have hx2 : Ext W w2 := Ext.trans (by repeat (first | (with_reducible exact Ext.refl _) | (with_reducible assumption) | (with_reducible refine Ext.drewN ?_ _) | (with_reducible refine Ext.drew ?_) | (with_reducible refine Ext.alloc ?_ _) | ((with_reducible refine Ext.setCell ?_ ?_ _); rotate_left; focus (first | (simp; done) | (simp; omega) | omega)) | (with_reducible refine Ext.trans ?_ (by with_reducible assumption)))) hy2; clear hy2) | (at_builtin; refine law_append1_at _ rfl _ _ 37 rfl 9 (.string .empty) 16 und_strs info_str rfl w0.heap.size (some ⟨g, 0, none⟩) n cc (St l) _ rfl rfl (by simp [Act.eval, go_sem]) (HO.out.ext hx2) (by have := hx2.le; omega) (by omega) (by omega) ?_; intro ad3 c3 w3 ho3 hb3 hg3 hk3; have hx3 : Ext w0 w3 := Ext.below (hx.trans hx2) hb3; have hv3 : VarAt w3 p 37 (.slice (some ⟨g, 0, none⟩) n cc) := (HV.out.ext hx2).grown hg3 (row_ne ((HO.out.ext hx2).ne_var (HV.out.ext hx2) (by decide))))); first | refine ⟨pk_of (by rw [HhC0.out]; exact ⟨hx3, hv3⟩), ?_⟩ | refine ⟨rfl, rfl, pk_of (by rw [HhC0.out]; exact ⟨hx3, hv3⟩), ?_⟩ | refine ⟨pk_of (by rw [HhC0.out]; exact ⟨hx.trans (by repeat (first | (with_reducible exact Ext.refl _) | (with_reducible assumption) | (with_reducible refine Ext.drewN ?_ _) | (with_reducible refine Ext.drew ?_) | (with_reducible refine Ext.alloc ?_ _) | ((with_reducible refine Ext.setCell ?_ ?_ _); rotate_left; focus (first | (simp; done) | (simp; omega) | omega)) | (with_reducible refine Ext.trans ?_ (by with_reducible assumption)))), HV.out.ext (by repeat (first | (with_reducible exact Ext.refl _) | (with_reducible assumption) | (with_reducible refine Ext.drewN ?_ _) | (with_reducible refine Ext.drew ?_) | (with_reducible refine Ext.alloc ?_ _) | ((with_reducible refine Ext.setCell ?_ ?_ _); rotate_left; focus (first | (simp; done) | (simp; omega) | omega)) | (with_reducible refine Ext.trans ?_ (by with_reducible assumption))))⟩), ?_⟩ | refine ⟨rfl, rfl, pk_of (by rw [HhC0.out]; exact ⟨hx.trans (by repeat (first | (with_reducible exact Ext.refl _) | (with_reducible assumption) | (with_reducible refine Ext.drewN ?_ _) | (with_reducible refine Ext.drew ?_) | (with_reducible refine Ext.alloc ?_ _) | ((with_reducible refine Ext.setCell ?_ ?_ _); rotate_left; focus (first | (simp; done) | (simp; omega) | omega)) | (with_reducible refine Ext.trans ?_ (by with_reducible assumption)))), HV.out.ext (by repeat (first | (with_reducible exact Ext.refl _) | (with_reducible assumption) | (with_reducible refine Ext.drewN ?_ _) | (with_reducible refine Ext.drew ?_) | (with_reducible refine Ext.alloc ?_ _) | ((with_reducible refine Ext.setCell ?_ ?_ _); rotate_left; focus (first | (simp; done) | (simp; omega) | omega)) | (with_reducible refine Ext.trans ?_ (by with_reducible assumption))))⟩), ?_⟩)))
  have hf3 := hv3.frozen
  have hc3 := hv3.cell
  refine mix_nil ?_
  go_wp2_with fail
  obtain ⟨w4, hw4⟩ : ∃ X, X = w3.setCell ⟨p, 0, none⟩ (.slice ad3 (n + 1) c3) := ⟨_, rfl⟩
  have hs4 : w4.heap.size = w3.heap.size := by rw [hw4]; simp [World.setCell]
  rw [← hw4]
  have hs2 := hx2.le
  have hs3 := hg3.size
  have e4 : ∀ b, b ≠ p → w4.heap[b]? = w3.heap[b]? := fun b hb => by rw [hw4]; exact Below.heap_setCell _ _ _ _ hb
  have hv4 : VarAt w4 p 37 (.slice ad3 (n + 1) c3) := by rw [hw4]; exact hv3.set _
  have ho4 : Own w4 w0.heap.size 9 ad3 (n + 1) c3 (St (l ++ [textOf to'])) := by rw [hw4, St_append]; exact ho3.other _ (ho3.ne_var hv3 (by decide))
  obtain ⟨g4, rfl⟩ := own_some ho4 (by omega)
  have hx4 : Ext w0 w4 := by rw [hw4]; exact Ext.setCell hx3 hp _
  refine bodyPost_end (v := .tuple #[]) (by simp [results, Try.results51, go_sem]) rfl ⟨rfl, ⟨hx4, g4, c3, ?_, ?_⟩, by omega, fun b hb hm => ⟨?_, fun hm4 => ?_⟩⟩
  · rw [List.length_append, List.length_singleton, ← HN.out]; exact hv4
  · rw [List.length_append, List.length_singleton, ← HN.out]; exact ho4
  · have hbp : b ≠ p := fun e => hm (.inl e)
    have hbg : b ≠ g := fun e => hm (.inr ⟨_, _, _, HV.out, e.symm⟩)
    rw [e4 b hbp, hg3.block b (by omega) (by simp [Value.ownBlock]; exact hbg), Below.block hx2 b hb]
  · rcases hm4 with rfl | ⟨a, n', c, h1, rfl⟩
    · exact hm (.inl rfl)
    · have e := varAt_inj h1 hv4
      injection e with e1 e2 e3
      injection e1 with e1
      subst e1
      rcases hk3 _ rfl with ⟨g', hg', he⟩ | h
      · injection hg' with hg'
        subst hg'
        exact hm (.inr ⟨_, _, _, HV.out, he⟩)
      · simp only at hb h; omega
/-- a fresh row of texts, which has room for one at least -/
def RetRow1 (l : List ByteArray) (w : World) (e : Ending) (w' : World) : Prop := ∃ g c, e = .returned (.slice (some ⟨g, 0, none⟩) l.length c) ∧ Own w' w.heap.size 9 (some ⟨g, 0, none⟩) l.length c (St l) ∧ Ext w w'
set_option maxHeartbeats 4000000 in
theorem impl_wrongWords (k bs : Nat) (hk : k ≤ 5) (hb : bs ≤ 36) (h5 : k ≤ 4 ∨ 10 ≤ bs) (da : Option Addr) (dn dc : Nat) (ds : List Int) (hd : ∀ x ∈ ds, 0 ≤ x ∧ x < (bs : Int)) (w : World) (hds : Ints w da dn dc ds) (hdn : dn ≤ 20) :
    Calls Try.prog 27 #[.slice da dn dc, .int .i64 bs, .int .i64 k] w (RetRow1 (ordS ((wrongL k bs ds).map textOf)) w) := by
  have hdl := hds.len
  have hle := wrongL_le k bs ds hb (by omega)
  have hmem : ∀ t ∈ wrongL k bs ds, t.length = ds.length ∧ ∀ x ∈ t, 0 ≤ x ∧ x < (bs : Int) := fun t ht => wrong_dig hd h5 ht
  have HW := Lib.hid (fun (p : Nat) (W : World) (hp : w.heap.size ≤ p) (hi : TxI w p [] W) => impl_wrong k bs hk hb 51 #[.pointer (some ⟨p, 0, none⟩)] da dn dc ds (MineT p) (fun j W => TxI w p (((wrongL k bs ds).take j).map textOf) W) W (by omega)
    ⟨fun _ _ => rfl, fun j W W' h hx => ⟨h.ext hx, fun b hb => h.back hx b hb⟩, fun j W b h hm => h.lt b hm, fun j W ta tn tc hj h ht hta => by
      have hm := hmem _ (gl_mem hj)
      have htl := ht.len
      have e : ((wrongL k bs ds).take (j + 1)).map textOf = ((wrongL k bs ds).take j).map textOf ++ [textOf (gl (wrongL k bs ds) j)] := by rw [take_gl hj, List.map_append]; rfl
      have h1 := wrongW_step w p hp _ (by rw [List.length_map, List.length_take]; omega) W ta tn tc (gl (wrongL k bs ds) j) (fun x hx => by have := hm.2 x hx; omega) (by omega) h ht
      rw [← e] at h1
      exact h1⟩ (fun j W h => hds.ext h.ex) (by simpa using hi))
  have HOr := Lib.hid (fun (g c : Nat) (W : World) (ho : Own W w.heap.size 9 (some ⟨g, 0, none⟩) ((wrongL k bs ds).map textOf).length c (St ((wrongL k bs ds).map textOf))) (hx : Ext w W) => impl_ordered g ((wrongL k bs ds).map textOf).length c w.heap.size ((wrongL k bs ds).map textOf) w W ho (by rw [List.length_map]; omega) hx (Nat.le_refl _))
  have HT := Lib.hid (show (wrongL k bs ds).take (wrongL k bs ds).length = wrongL k bs ds from List.take_of_length_le (Nat.le_refl _))
  clear hmem hds hd hle hdl
  go_enter Try.func27, Try.ntmps27
  go_wp2_with fail
  obtain ⟨w1, hw1⟩ : ∃ W, W = w.alloc (.cells #[] 9) := ⟨_, rfl⟩
  have hs1 : w1.heap.size = w.heap.size + 1 := by rw [hw1]; simp
  obtain ⟨w2, hw2⟩ : ∃ W, W = w1.alloc (.cells #[.slice (some ⟨w.heap.size, 0, none⟩) 0 0] 37) := ⟨_, rfl⟩
  have hx1 : Ext w w1 := by rw [hw1]; exact (Ext.refl _).alloc _
  have hx2 : Ext w w2 := by rw [hw2]; exact hx1.alloc _
  have hT2 : TxI w (w.heap.size + 1) [] w2 := by
    refine ⟨hx2, w.heap.size, 0, ?_, ?_⟩
    · rw [hw2, ← hs1]; exact VarAt.new _ _ _
    · rw [hw2]; exact (show Own w1 w.heap.size 9 (some ⟨w.heap.size, 0, none⟩) 0 0 [] by rw [hw1]; exact Own.lit0 _ _).ext ((Ext.refl _).alloc _)
  have hW := HW.out _ w2 (by omega) hT2
  rw [← hw1, ← hw2]
  refine hW.mono ?_
  rintro e w3 ⟨rfl, hi3, hs3⟩
  rw [HT.out] at hi3
  obtain ⟨g, cc, hv3, ho3⟩ := hi3.row
  have hx3 := hi3.ex
  have HO := Lib.hid (HOr.out g cc w3 ho3 hx3)
  rw [List.length_map] at HO
  have c3 := hv3.cell
  have hg := ho3.lt
  clear hw1 hw2 hs1 hx1 hx2 hT2 hW hi3 hv3 ho3
  go_wp2_with ((with_reducible refine HO.out.mono ?_); rintro e w4 ⟨rfl, ho4, hc4⟩)
  go_ret
  exact ⟨g, cc, rfl, ho4, hc4.to hx3 hg.1⟩
/-- the wrong words that are told, and whether there are any to be told -/
def wwV (k bs : Nat) (s : ByteArray) : List ByteArray := if wwB k bs s then wwL k bs s else []
set_option maxHeartbeats 4000000 in
theorem impl_WrongWords (k bs : Nat) (hk : k ≤ 5) (hb : bs ≤ 36) (s : ByteArray) (w : World) (hs : s.size ≤ 1048576) :
    Calls Try.prog 11 #[.string s, .int .i64 bs, .int .i64 k] w (RetTS (wwV k bs s) (wwB k bs s) w) := by
  have HD := Lib.hid (impl_DigitsOf s (bs : Int) w (by omega))
  have HK := Lib.hid (fun W => impl_kindOk k hk (bs : Int) W)
  cases hw : wordB s.data.toList (bs : Int) 20
  · have HB := Lib.hid (show wwB k bs s = false by unfold wwB; rw [hw]; rfl)
    have HV := Lib.hid (show wwV k bs s = [] by unfold wwV; rw [HB.out]; rfl)
    rw [hw] at HD
    clear hw
    go_enter Try.func11, Try.ntmps11
    go_wp2_with ((with_reducible refine HD.out.mono ?_); rintro e w1 ⟨da, dn, dc, rfl, hx1, _⟩; have HX := Lib.hid hx1; clear hx1)
    go_ret2
    exact RetTS.no HB.out HV.out HX.out
  · rw [hw] at HD
    cases hkb : kindB k (bs : Int)
    · have HB := Lib.hid (show wwB k bs s = false by unfold wwB; rw [hw, hkb]; rfl)
      have HV := Lib.hid (show wwV k bs s = [] by unfold wwV; rw [HB.out]; rfl)
      rw [hkb] at HK
      clear hw hkb
      go_enter Try.func11, Try.ntmps11
      go_wp2_with (first | (go_at_call 19; (with_reducible refine (HK.out _).mono ?_); rintro e w2 ⟨rfl, rfl⟩) | ((with_reducible refine HD.out.mono ?_); rintro e w1 ⟨da, dn, dc, rfl, hx1, _⟩; have HX := Lib.hid hx1; clear hx1))
      go_ret2
      exact RetTS.no HB.out HV.out HX.out
    · have HB := Lib.hid (show wwB k bs s = true by unfold wwB; rw [hw, hkb]; rfl)
      have HV := Lib.hid (show wwV k bs s = wwL k bs s by unfold wwV; rw [HB.out]; rfl)
      have h5 : k ≤ 4 ∨ 10 ≤ bs := by simp only [kindB, Bool.or_eq_true, decide_eq_true_eq] at hkb; omega
      have h20 := wordB_len hw
      have hdg : ∀ x ∈ digC s, 0 ≤ x ∧ x < (bs : Int) := fun x hx => by
        unfold wordB at hw
        simp only [Bool.and_eq_true, List.all_eq_true] at hw
        unfold digC digs at hx
        obtain ⟨y, hy, rfl⟩ := List.mem_map.1 hx
        have := inB_t.1 (hw.1 y hy)
        omega
      have HW := Lib.hid (fun da dn dc W (h : Ints W da dn dc (digC s)) => impl_wrongWords k bs hk hb h5 da dn dc (digC s) hdg W h (by have := h.len; rw [digC_len] at this; omega))
      rw [hkb] at HK
      clear hw hkb hdg h5
      go_enter Try.func11, Try.ntmps11
      go_wp2_with (first | (go_at_call 19; (with_reducible refine (HK.out _).mono ?_); rintro e w2 ⟨rfl, rfl⟩) | (go_at_call 26; (with_reducible refine HD.out.mono ?_); rintro e w1 ⟨da, dn, dc, rfl, hx1, ho1⟩; have HX := Lib.hid hx1; have HO := Lib.hid (ho1 rfl); clear hx1 ho1) | (go_at_call 27; (with_reducible refine (HW.out _ _ _ _ HO.out.ints).mono ?_); rintro e w3 ⟨g3, c3, rfl, ho3, hx3⟩))
      go_ret2
      exact ⟨_, _, by rw [HB.out, HV.out]; rfl, by rw [HV.out]; exact ho3.sl, HX.out.trans hx3⟩
end Go.Proofs.Ytccoopnoakhedaa
