/- The law on candidates: walked. -/
import Derived.Test.YtbcfbkhbangeoaaGreatR8C
import Derived.Test.YtbcfbkhbangeoaaGreatR8
import Derived.Test.YtbcfbkhbangeoaaGreatCount
import Derived.Test.YtbcfbkhbangeoaaGreatWrW
import Derived.Test.YtbcfbkhbangeoaaGreatUndG
import Derived.Test.YtbcfbkhbangeoaaGreatLInts
namespace Go.Proofs.YtbcfbkhbangeoaaGreat
set_option maxRecDepth 100000
open Go.RowKit

/-- the candidate at a place -/
def gp (ps : List (ByteArray × Int)) (k : Nat) : ByteArray × Int := ps.getD k (.empty, 0)
theorem gp_mem {ps : List (ByteArray × Int)} {k : Nat} (h : k < ps.length) : ((gp ps k).1, (gp ps k).2) ∈ ps := getD_mem ps _ k h
theorem cell_cand : Tryz.prog.cellsOf 42 = 2 := by kernel_rfl
theorem cd_ix (g n c : Nat) (K : IntKind) (i : Nat) (hi : i < n) : ∀ w', (Instr.indexAt 38 (.slice (some ⟨g, 0, none⟩) n c) (.int K i)).run Tryz.prog w' = .ok (.pointer (some ⟨g, i * 2, none⟩)) w' := fun w' => by
  obtain ⟨j, hj, hjs⟩ := cellsOf_size cell_cand (by omega)
  have : (⟨g, 0, none⟩ : Addr).add (i * 2) = ⟨g, i * 2, none⟩ := by unfold Addr.add; simp; exact fun h => h.symm
  simp [Instr.indexAt, asIntOf, run_underlying und_cands, sizeOf, typeInfo, hj, hjs, Addr.add_lit, hi]
theorem cd_cells {w : World} {B g n c : Nat} {ps : List (ByteArray × Int)} (h : OwnS 2 w B 42 (some ⟨g, 0, none⟩) n c (encC ps)) (hl : ps.length = n) {i : Nat} (hi : i < n) :
    w.cell? ⟨g, i * 2, none⟩ = some (.string (gp ps i).1) ∧ w.cell? ⟨g, i * 2 + 1, none⟩ = some (.int .i64 (gp ps i).2) := by
  have e : ps[i]! = gp ps i := by rw [getElem!_pos ps i (by omega)]; simp [gp, show i < ps.length by omega]
  constructor
  · rw [World.ownsRow.cellAt h (i * 2) (by omega), encC_at ps _ (by omega), show i * 2 / 2 = i by omega, show i * 2 % 2 = 0 by omega, e]; rfl
  · rw [World.ownsRow.cellAt h (i * 2 + 1) (by omega), encC_at ps _ (by omega), show (i * 2 + 1) / 2 = i by omega, show (i * 2 + 1) % 2 = 1 by omega, e]; rfl
theorem OwnS.someG {s : Nat} {w : World} {B : Nat} {E : TypeId} {a : Option Addr} {n c : Nat} {vs : List Value} (h : OwnS s w B E a n c vs) (hn : 0 < n) : ∃ g, a = some ⟨g, 0, none⟩ ∧ B ≤ g ∧ g < w.heap.size := by
  rcases h.2 with ⟨h2, _⟩ | ⟨g, cap, cur, hv, hb, hg, _⟩
  · omega
  · simp only [Value.slice.injEq, true_and] at hv
    exact ⟨g, hv.1, hb, (Array.getElem?_eq_some_iff.1 hg).1⟩
theorem putsF_len (D : Ch) (bs : Nat) (ds : List Int) (hb : bs ≤ 36) (hd : ds.length ≤ 20) : ∀ n m, m + n = 6 → (putsF D bs ds m).length ≤ n * 1000
  | 0, m, e => by
    obtain rfl : m = 6 := by omega
    exact Nat.zero_le _
  | n + 1, m, e => by
    have h1 := putsF_len D bs ds hb hd n (m + 1) (by omega)
    have h2 : (rowK D bs ds m).length ≤ 1000 := by
      unfold rowK
      split
      · unfold putsK
        rw [List.length_map]
        have := List.length_filter_le (chkD D) ((wrongL m bs ds).take (wrongL m bs ds).length)
        rw [List.take_of_length_le (Nat.le_refl _)] at this ⊢
        exact Nat.le_trans this (wrongL_le m bs ds hb hd)
      · simp
    rw [putsF_step D bs ds (by omega), List.length_append]; omega
theorem nodup_leC0 {α : Type} [BEq α] [LawfulBEq α] : ∀ {l l' : List α}, l.Nodup → (∀ x ∈ l, x ∈ l') → l.length ≤ l'.length
  | [], l', _, _ => Nat.zero_le _
  | x :: l, l', hn, hs => by
    rw [List.nodup_cons] at hn
    have h1 := nodup_leC0 (l' := l'.erase x) hn.2 fun y hy => (List.mem_erase_of_ne (fun e => hn.1 (by rw [← e]; exact hy))).2 (hs y (List.mem_cons_of_mem _ hy))
    rw [List.length_erase_of_mem (hs x (by simp))] at h1
    have := List.length_pos_of_mem (hs x (by simp))
    rw [List.length_cons]; omega
theorem nodup_leC {l l' : List ByteArray} (hn : l.Nodup) (hs : ∀ x ∈ l, x ∈ l') : l.length ≤ l'.length := by
  have h := nodup_leC0 (l := l.map fun b => b.data.toList) (l' := l'.map fun b => b.data.toList) (List.pairwise_map.2 (hn.imp fun hne e => hne (data_inj e))) (fun y hy => by
    obtain ⟨z, hz, rfl⟩ := List.mem_map.1 hy
    exact List.mem_map_of_mem (hs z hz))
  simpa using h
theorem isC_len {D : Ch} {bs : Nat} {t : List Int} {ps : List (ByteArray × Int)} (hb : bs ≤ 36) (hd : t.length ≤ 20) (h : IsC (putsF D bs t 0) ps) : ps.length ≤ 6000 := by
  have hn : (ps.map Prod.fst).Nodup := List.pairwise_map.2 (h.1.imp fun h e => by rw [e, less_irrefl] at h; cases h)
  have h1 := nodup_leC hn (l' := (putsF D bs t 0).map Prod.fst) fun x hx => by
    obtain ⟨p, hp, rfl⟩ := List.mem_map.1 hx
    exact ((h.2 p.1 p.2).1 hp).1
  rw [List.length_map, List.length_map] at h1
  have h2 := putsF_len D bs t hb hd 6 0 rfl
  omega
/-- what the law asks of the candidates -/
def CdsOk (D : Ch) (bs kind : Nat) (s t : ByteArray) (ps : List (ByteArray × Int)) : Prop :=
  ∀ i, i < ps.length → ∃ k : Nat, (gp ps i).2 = (k : Int) ∧ k ≤ 5 ∧ (gp ps i).1.size ≤ 1048576 ∧ wwB k bs (gp ps i).1 = true ∧ chkB D (gp ps i).1 = true ∧ t ∈ wwV k bs (gp ps i).1 ∧ (wwV k bs (gp ps i).1).length ≤ 1048576 ∧ ((gp ps i).1 = s → k ≤ kind)
def hasI (s : ByteArray) (ps : List (ByteArray × Int)) (i : Nat) : Bool := (ps.take i).any fun p => decide (p.1 = s)
theorem hasI_step {s : ByteArray} {ps : List (ByteArray × Int)} {i : Nat} (h : i < ps.length) : hasI s ps (i + 1) = (hasI s ps i || decide ((gp ps i).1 = s)) := by
  unfold hasI
  rw [List.take_succ_eq_append_getElem h, List.any_append]
  simp [gp, h]

theorem hasI_all {s : ByteArray} {ps : List (ByteArray × Int)} (h : s ∈ ps.map Prod.fst) : hasI s ps ps.length = true := by
  unfold hasI
  rw [List.take_of_length_le (Nat.le_refl _)]
  obtain ⟨p, hp, rfl⟩ := List.mem_map.1 h
  exact List.any_eq_true.2 ⟨p, hp, by simp⟩
theorem cdsOk_of {D : Ch} (hok : OkCh D) (hv : validCh D = true) {b : Nat} (hb : D.base = (b : Int)) (hb36 : b ≤ 36) {ds t : List Int} (hd : DigC D ds) (hl : ds.length = D.places.length) {kind : Nat} (hk : kind ≤ 4) (ht : t ∈ wrongL kind b ds)
    {ps : List (ByteArray × Int)} (hp : IsC (putsF D b t 0) ps) : CdsOk D b kind (textOf ds) (textOf t) ps := fun i hi => by
  obtain ⟨k, h1, h2, h3, h4, h5, h6, h7⟩ := cand_one hok hv hb hd hl hk ht hp (gp_mem hi)
  have h20 := hok.p20
  have hV : wwV k b (gp ps i).1 = wwL k b (gp ps i).1 := by unfold wwV; rw [h4]; rfl
  have hlen := wwL_len (k := k) (base := b) (s := (gp ps i).1) hb36 (by omega)
  refine ⟨k, h1, h2, by omega, h4, h5, by rw [hV]; exact h6, by rw [hV]; omega, fun e => h7 e ?_⟩
  rw [← e]; exact h5

set_option maxHeartbeats 16000000 in
theorem lawCandidates (a : Option Addr) (n c : Nat) (l : List UInt8) (a' : Option Addr) (n' c' : Nat) (l' : List UInt8) (w : World) (hv : Bytes w a n c l) (hn : n ≤ 9223372036854775807) (hv' : Bytes w a' n' c' l') (hn' : n' ≤ 9223372036854775807) :
    Calls Tryz.prog 3 #[.slice a n c, .slice a' n' c'] w (Ret (.bool true) w) := by
  have HLong := Lib.hid (laws_r8Long a a' n c n' c' w hn hn')
  have HB := Lib.hid hv
  have HB' := Lib.hid hv'
  clear hv hv'
  by_cases hlong : 48 < n ∨ 48 < n'
  · rw [decide_eq_true hlong] at HLong
    clear hlong
    go_enter Tryz.func3, Tryz.ntmps3
    go_wp2_with (refine HLong.out.mono ?_; rintro e w1 ⟨rfl, rfl⟩)
    go_ret
    exact ⟨rfl, Ext.refl _⟩
  rw [decide_eq_false hlong] at HLong
  have hn48 : n ≤ 48 ∧ n' ≤ 48 := by omega
  clear hlong
  go_enter Tryz.func3, Tryz.ntmps3
  go_wp2_with (first | (go_at_call 5; refine HLong.out.mono ?_; rintro e w1 ⟨rfl, rfl⟩) | (go_at_call 6; refine (spec_R8Chain a n c l w HB.out (by omega)).mono ?_; rintro e w1 ⟨D, ad, x, cc, pd, p, pc, rfl, hdr, hfew, hp, hx3, hch, hx1⟩))
  have Hval := Lib.hid hdr.valid
  have Hok := Lib.hid (validCh_ok hdr.valid)
  have hb2 := hdr.b2
  have hb10 := hdr.b36
  have hp5 := hdr.p5
  have hp1 := hdr.p1
  rw [hp] at hp5 hp1
  have HP := Lib.hid hp
  have HI1 := Lib.hid hch
  have hN := few_words Hok.out hfew
  obtain ⟨bs, hbs⟩ : ∃ bs : Nat, D.base = (bs : Int) := Int.eq_ofNat_of_zero_le (by omega)
  have HBs := Lib.hid hbs
  have hbs36 : 2 ≤ bs ∧ bs ≤ 36 := by omega
  obtain ⟨wb, hwb⟩ : ∃ wb, wb = w1.alloc (.cells #[.int .i64 D.base, .int .i64 D.states, .int .i64 D.start, .int .i64 D.fin, .slice ad x cc, .slice pd p pc] 27) := ⟨_, rfl⟩
  have hx1b : Ext w1 wb := by rw [hwb]; exact (by repeat (first | (with_reducible exact Ext.refl _) | (with_reducible refine Ext.drewN ?_ _) | (with_reducible refine Ext.drew ?_) | (with_reducible refine Ext.alloc ?_ _) | ((with_reducible refine Ext.setCell ?_ ?_ _); rotate_left; focus (first | (simp; done) | (simp; omega) | omega)) | assumption | (with_reducible refine Ext.trans ?_ (by assumption))))
  have HA := Lib.hid (show ChAt wb w1.heap.size D ad x cc pd p pc by rw [hwb]; exact hch.box _)
  have hxwb : Ext w wb := hx1.trans hx1b
  have HI := Lib.hid (hch.ext hx1b)
  rw [← hwb]
  obtain ⟨q, hq⟩ : ∃ q, q = w1.heap.size := ⟨_, rfl⟩
  rw [← hq] at HA ⊢
  obtain ⟨k0, k1, k2, k3, k4, k5, _, _⟩ := HA.out
  clear hwb hq hdr hfew hp hch HLong hx1 hx1b HB hbs
  have HWA := Lib.hid (fun r W (h : Ext wb W) => impl_WordAt D ad x cc pd p pc r W (HI.out.ext h) Hval.out)
  have HCt := Lib.hid (fun W (h : Ext wb W) => impl_CountWords D ad x cc pd p pc W (HI.out.ext h) Hval.out)
  have HIC := Lib.hid (fun s W (hs : s.size ≤ 1048576) (h : Ext wb W) => impl_IsChecked D ad x cc pd p pc s W (HI.out.ext h) hs)
  have HWw := Lib.hid (fun (k : Nat) (hk : k ≤ 5) s W (hs : s.size ≤ 1048576) => impl_WrongWords k bs hk hbs36.2 s W hs)
  rw [← HBs.out] at HWw
  have HCd := Lib.hid (fun s W (hs : s.size ≤ 1048576) (h : Ext wb W) => impl_Cand D ad x cc pd p pc s W (HI.out.ext h).ts (HI.out.ext h).ps HI.out.hn HI.out.hn' HI.out.sm hs)
  have H9 := Lib.hid (fun W (h : Ext wb W) => impl_Caught D ad x cc pd p pc 9 0 0 false W (HI.out.ext h) (Lib.hid fun W' hx => impl_UndetNo D ad x cc pd p pc 9 (by unfold kindI inB; simp) W' ((HI.out.ext h).ext hx) Hval.out))
  obtain ⟨N, hNe⟩ : ∃ N, N = (wordsA D).length := ⟨_, rfl⟩
  rw [← hNe] at HCt hN
  have HNe := Lib.hid hNe
  clear hNe
  have hxbb : Ext wb wb := Ext.refl _
  by_cases h0 : N = 0
  · subst h0
    go_wp2_with (first | (go_at_call 7; (with_reducible refine (HCt.out _ (by repeat (first | (with_reducible exact Ext.refl _) | (with_reducible assumption) | (with_reducible refine Ext.drewN ?_ _) | (with_reducible refine Ext.drew ?_) | (with_reducible refine Ext.alloc ?_ _) | ((with_reducible refine Ext.setCell ?_ ?_ _); rotate_left; focus (first | (simp; done) | (simp; omega) | omega)) | (with_reducible refine Ext.trans ?_ (by with_reducible assumption))))).mono ?_); rintro e w2 ⟨rfl, hy2⟩; have hx2 : Ext wb w2 := Ext.trans (by repeat (first | (with_reducible exact Ext.refl _) | (with_reducible assumption) | (with_reducible refine Ext.drewN ?_ _) | (with_reducible refine Ext.drew ?_) | (with_reducible refine Ext.alloc ?_ _) | ((with_reducible refine Ext.setCell ?_ ?_ _); rotate_left; focus (first | (simp; done) | (simp; omega) | omega)) | (with_reducible refine Ext.trans ?_ (by with_reducible assumption)))) hy2; clear hy2) | (go_at_call 8; (with_reducible refine (H9.out _ (by repeat (first | (with_reducible exact Ext.refl _) | (with_reducible assumption) | (with_reducible refine Ext.drewN ?_ _) | (with_reducible refine Ext.drew ?_) | (with_reducible refine Ext.alloc ?_ _) | ((with_reducible refine Ext.setCell ?_ ?_ _); rotate_left; focus (first | (simp; done) | (simp; omega) | omega)) | (with_reducible refine Ext.trans ?_ (by with_reducible assumption))))).mono ?_); rintro e w3 ⟨rfl, hy3⟩; have hx3 : Ext wb w3 := Ext.trans (by repeat (first | (with_reducible exact Ext.refl _) | (with_reducible assumption) | (with_reducible refine Ext.drewN ?_ _) | (with_reducible refine Ext.drew ?_) | (with_reducible refine Ext.alloc ?_ _) | ((with_reducible refine Ext.setCell ?_ ?_ _); rotate_left; focus (first | (simp; done) | (simp; omega) | omega)) | (with_reducible refine Ext.trans ?_ (by with_reducible assumption)))) hy3; clear hy3))
    go_ret
    exact ⟨rfl, hxwb.trans (by repeat (first | (with_reducible exact Ext.refl _) | (with_reducible refine Ext.drewN ?_ _) | (with_reducible refine Ext.drew ?_) | (with_reducible refine Ext.alloc ?_ _) | ((with_reducible refine Ext.setCell ?_ ?_ _); rotate_left; focus (first | (simp; done) | (simp; omega) | omega)) | assumption | (with_reducible refine Ext.trans ?_ (by assumption))))⟩
  · have hz := r8_bd l' 0 N (by omega)
    have HR0 := Lib.hid (fun W (h : Ext w W) => laws_r8 a' n' c' l' 0 (N : Int) W (HB'.out.ext h) (by omega) (by omega) (by omega))
    generalize r8 l' 0 N = r0 at *
    obtain ⟨r, rfl⟩ := Int.eq_ofNat_of_zero_le hz.1
    have hrN : r < N := by omega
    obtain ⟨ds, hds⟩ : ∃ ds, ds = (wordsA D).getD r [] := ⟨_, rfl⟩
    have hm := getD_mem' (l := wordsA D) (d := []) (k := r) (by rw [← HNe.out]; exact hrN)
    rw [← hds] at hm
    obtain ⟨hl, hd, hd36⟩ := wordsA_mem Hok.out hm
    have hck := (rk_wordR Hok.out Hval.out (r := r) (by rw [← HNe.out]; exact hrN)).1
    have HW1 := Lib.hid (show watB D (r : Nat) = true ∧ watT D (r : Nat) = textOf ds from by
      have h1 : watB D (r : Nat) = true := by unfold watB; rw [decide_eq_true_iff, ← HNe.out]; omega
      exact ⟨h1, by rw [watT, h1, hds]; rfl⟩)
    have hck2 : chkB D (textOf ds) = true := by rw [hds]; exact hck
    have hz1 := r8_bd l' 1 5 (by omega)
    have HR1 := Lib.hid (fun W (h : Ext w W) => laws_r8 a' n' c' l' 1 5 W (HB'.out.ext h) (by omega) (by omega) (by omega))
    generalize r8 l' 1 5 = r1 at *
    obtain ⟨kind, rfl⟩ := Int.eq_ofNat_of_zero_le hz1.1
    have hkd : kind ≤ 4 := by omega
    have hlp : ds.length = p := by rw [hl]; exact HP.out
    have hsz : (textOf ds).size = p := by rw [textOf_size, hlp]
    obtain ⟨s, hs⟩ : ∃ s, s = textOf ds := ⟨_, rfl⟩
    have hwB : wwB kind bs s = true := by
      unfold wwB
      rw [hs, ← HBs.out, wordB_text ⟨Hok.out.b2, Hok.out.b36⟩ hd (by omega)]
      unfold kindB; simp; omega
    have hwV : wwV kind bs s = wwL kind bs s := by unfold wwV; rw [hwB]; rfl
    have hwl := wwL_len (k := kind) (base := bs) (s := s) (by omega) (by rw [hs]; omega)
    have HWk := Lib.hid (fun W => HWw.out kind (by omega) s W (by rw [hs]; omega))
    rw [hwV, hwB] at HWk
    have HMem := Lib.hid (fun t (ht : t ∈ wwL kind bs s) => (wwL_mem (dig36_of Hok.out.b36 hd)).1 (by rw [← hs]; exact ht))
    obtain ⟨L, hL⟩ : ∃ L, L = wwL kind bs s := ⟨_, rfl⟩
    rw [← hL] at HWk HMem hwl
    rw [← hs] at HW1 hsz
    have Hhm := Lib.hid hm; clear hm; have Hhd := Lib.hid hd; clear hd; have Hhd36 := Lib.hid hd36; clear hd36; have Hhck := Lib.hid hck; clear hck; have Hhck2 := Lib.hid hck2; clear hck2; have Hhl := Lib.hid hl; clear hl; have Hhlp := Lib.hid hlp; clear hlp; have Hhs := Lib.hid hs; clear hs
    clear hds hL hwV hwB
    go_wp2_with (first | (go_at_call 7; (with_reducible refine (HCt.out _ (by repeat (first | (with_reducible exact Ext.refl _) | (with_reducible assumption) | (with_reducible refine Ext.drewN ?_ _) | (with_reducible refine Ext.drew ?_) | (with_reducible refine Ext.alloc ?_ _) | ((with_reducible refine Ext.setCell ?_ ?_ _); rotate_left; focus (first | (simp; done) | (simp; omega) | omega)) | (with_reducible refine Ext.trans ?_ (by with_reducible assumption))))).mono ?_); rintro e w2 ⟨rfl, hy2⟩; have hx2 : Ext wb w2 := Ext.trans (by repeat (first | (with_reducible exact Ext.refl _) | (with_reducible assumption) | (with_reducible refine Ext.drewN ?_ _) | (with_reducible refine Ext.drew ?_) | (with_reducible refine Ext.alloc ?_ _) | ((with_reducible refine Ext.setCell ?_ ?_ _); rotate_left; focus (first | (simp; done) | (simp; omega) | omega)) | (with_reducible refine Ext.trans ?_ (by with_reducible assumption)))) hy2; clear hy2))
    have hxw2 : Ext w w2 := hxwb.trans hx2
    (refine wp_region_from w2 (by repeat (first | (with_reducible exact Ext.refl _) | (with_reducible refine Ext.drewN ?_ _) | (with_reducible refine Ext.drew ?_) | (with_reducible refine Ext.alloc ?_ _) | ((with_reducible refine Ext.setCell ?_ ?_ _); rotate_left; focus (first | (simp; done) | (simp; omega) | omega)) | assumption | (with_reducible refine Ext.trans ?_ (by assumption)))) (by kernel_rfl) (by kernel_rfl) (by kernel_rfl) ?_; (repeat (first | (refine mix_q rfl ?_; go_big_quiet_step (fail); refine wpQuiet_nil ?_; show wpMix _ _ _ _ _ _ _) | (refine mix_s rfl ?_; go_wp2_with (first | (go_at_call 10; (with_reducible refine (HR0.out _ (by repeat (first | (with_reducible exact Ext.refl _) | (with_reducible assumption) | (with_reducible refine Ext.drewN ?_ _) | (with_reducible refine Ext.drew ?_) | (with_reducible refine Ext.alloc ?_ _) | ((with_reducible refine Ext.setCell ?_ ?_ _); rotate_left; focus (first | (simp; done) | (simp; omega) | omega)) | (with_reducible refine Ext.trans ?_ (by with_reducible assumption))))).mono ?_); rintro e w3 ⟨rfl, rfl⟩) | (go_at_call 9; (with_reducible refine (HWA.out (r : Nat) _ (by repeat (first | (with_reducible exact Ext.refl _) | (with_reducible assumption) | (with_reducible refine Ext.drewN ?_ _) | (with_reducible refine Ext.drew ?_) | (with_reducible refine Ext.alloc ?_ _) | ((with_reducible refine Ext.setCell ?_ ?_ _); rotate_left; focus (first | (simp; done) | (simp; omega) | omega)) | (with_reducible refine Ext.trans ?_ (by with_reducible assumption))))).mono ?_); rintro e w4 ⟨rfl, hy4⟩; rw [HW1.out.1, HW1.out.2]; have hx4 : Ext w2 w4 := Ext.trans (by repeat (first | (with_reducible exact Ext.refl _) | (with_reducible assumption) | (with_reducible refine Ext.drewN ?_ _) | (with_reducible refine Ext.drew ?_) | (with_reducible refine Ext.alloc ?_ _) | ((with_reducible refine Ext.setCell ?_ ?_ _); rotate_left; focus (first | (simp; done) | (simp; omega) | omega)) | (with_reducible refine Ext.trans ?_ (by with_reducible assumption)))) hy4; clear hy4)); first | refine ⟨up_of (by repeat (first | (with_reducible exact Ext.refl _) | (with_reducible refine Ext.drewN ?_ _) | (with_reducible refine Ext.drew ?_) | (with_reducible refine Ext.alloc ?_ _) | ((with_reducible refine Ext.setCell ?_ ?_ _); rotate_left; focus (first | (simp; done) | (simp; omega) | omega)) | assumption | (with_reducible refine Ext.trans ?_ (by assumption)))), ?_⟩ | refine ⟨rfl, rfl, up_of (by repeat (first | (with_reducible exact Ext.refl _) | (with_reducible refine Ext.drewN ?_ _) | (with_reducible refine Ext.drew ?_) | (with_reducible refine Ext.alloc ?_ _) | ((with_reducible refine Ext.setCell ?_ ?_ _); rotate_left; focus (first | (simp; done) | (simp; omega) | omega)) | assumption | (with_reducible refine Ext.trans ?_ (by assumption)))), ?_⟩))); refine mix_nil ?_)
    have hxw4 : Ext w w4 := hxw2.trans hx4
    have hxb4 : Ext wb w4 := hx2.trans hx4
    obtain ⟨m, hm⟩ : ∃ m, m = L.length := ⟨_, rfl⟩
    have HLm := Lib.hid hm
    by_cases hL0 : m = 0
    · have hq0 : ((m : Int) == 0) = true := beq_iff_eq.2 (by omega)
      go_wp2_with (first | (go_at_call 10; (with_reducible refine (HR1.out _ (by repeat (first | (with_reducible exact Ext.refl _) | (with_reducible assumption) | (with_reducible refine Ext.drewN ?_ _) | (with_reducible refine Ext.drew ?_) | (with_reducible refine Ext.alloc ?_ _) | ((with_reducible refine Ext.setCell ?_ ?_ _); rotate_left; focus (first | (simp; done) | (simp; omega) | omega)) | (with_reducible refine Ext.trans ?_ (by with_reducible assumption))))).mono ?_); rintro e w5 ⟨rfl, rfl⟩) | (go_at_call 11; (with_reducible refine (HWk.out _).mono ?_); rintro e w6 ⟨g6, c6, rfl, ho6, hy6⟩; rw [← HLm.out] at ho6 ⊢; have hx6 : Ext w4 w6 := Ext.trans (by repeat (first | (with_reducible exact Ext.refl _) | (with_reducible assumption) | (with_reducible refine Ext.drewN ?_ _) | (with_reducible refine Ext.drew ?_) | (with_reducible refine Ext.alloc ?_ _) | ((with_reducible refine Ext.setCell ?_ ?_ _); rotate_left; focus (first | (simp; done) | (simp; omega) | omega)) | (with_reducible refine Ext.trans ?_ (by with_reducible assumption)))) hy6; clear hy6))
      go_ret
      exact ⟨rfl, hxw4.trans hx6⟩
    have hq0 : ((m : Int) == 0) = false := beq_eq_false_iff_ne.2 (by omega)
    rw [← hm] at hwl
    clear hm
    go_wp2_with (first | (go_at_call 10; (with_reducible refine (HR1.out _ (by repeat (first | (with_reducible exact Ext.refl _) | (with_reducible assumption) | (with_reducible refine Ext.drewN ?_ _) | (with_reducible refine Ext.drew ?_) | (with_reducible refine Ext.alloc ?_ _) | ((with_reducible refine Ext.setCell ?_ ?_ _); rotate_left; focus (first | (simp; done) | (simp; omega) | omega)) | (with_reducible refine Ext.trans ?_ (by with_reducible assumption))))).mono ?_); rintro e w5 ⟨rfl, rfl⟩) | (go_at_call 11; (with_reducible refine (HWk.out _).mono ?_); rintro e w6 ⟨g6, c6, rfl, ho6, hy6⟩; rw [← HLm.out] at ho6 ⊢; have hx6 : Ext w4 w6 := Ext.trans (by repeat (first | (with_reducible exact Ext.refl _) | (with_reducible assumption) | (with_reducible refine Ext.drewN ?_ _) | (with_reducible refine Ext.drew ?_) | (with_reducible refine Ext.alloc ?_ _) | ((with_reducible refine Ext.setCell ?_ ?_ _); rotate_left; focus (first | (simp; done) | (simp; omega) | omega)) | (with_reducible refine Ext.trans ?_ (by with_reducible assumption)))) hy6; clear hy6))
    have HO6 := Lib.hid (show Strs w6 g6 m c6 L from ho6)
    clear ho6
    have hxb6 : Ext wb w6 := hxb4.trans hx6
    have hxw6 : Ext w w6 := hxw4.trans hx6
    have hz2 := r8_bd l' 2 m (by omega)
    have HR2 := Lib.hid (fun W (h : Ext w W) => laws_r8 a' n' c' l' 2 (m : Int) W (HB'.out.ext h) (by omega) (by omega) (by omega))
    generalize r8 l' 2 m = r2 at *
    obtain ⟨i2, rfl⟩ := Int.eq_ofNat_of_zero_le hz2.1
    have hi2 : i2 < m := by omega
    obtain ⟨b6, o6, hix6, hcell6⟩ := Sl.ix (P := Tryz.prog) HO6.out 35 9 und_strs cell_str
    have hmem : gs L i2 ∈ L := by have h := HLm.out; rw [gs_get (by omega)]; exact List.getElem_mem (by omega)
    obtain ⟨t, ht, hte⟩ := HMem.out _ hmem
    have hgk := gv_St (l := L) (k := i2) (by rw [← HLm.out]; exact hi2)
    obtain ⟨hro, hdt, htl⟩ := typed_ok Hok.out Hval.out HBs.out Hhd.out Hhl.out hkd ht
    have h20 := Hok.out.p20
    have hCd2 := fun W h => HCd.out (gs L i2) W (by rw [hte, textOf_size]; omega) h
    have HCd2 := Lib.hid hCd2
    have HTe := Lib.hid hte
    obtain ⟨ty, hty⟩ : ∃ ty, ty = gs L i2 := ⟨_, rfl⟩
    rw [← hty] at HCd2 HTe
    have HT := Lib.hid ht
    have HDt := Lib.hid hdt
    have HRo := Lib.hid (show runOk D ty = true by rw [HTe.out]; exact hro)
    clear hCd2 hte ht hdt hro hmem
    rw [← hty] at hgk
    clear hty
    go_wp2_with (first | (go_at_call 10; (with_reducible refine (HR2.out _ (by repeat (first | (with_reducible exact Ext.refl _) | (with_reducible assumption) | (with_reducible refine Ext.drewN ?_ _) | (with_reducible refine Ext.drew ?_) | (with_reducible refine Ext.alloc ?_ _) | ((with_reducible refine Ext.setCell ?_ ?_ _); rotate_left; focus (first | (simp; done) | (simp; omega) | omega)) | (with_reducible refine Ext.trans ?_ (by with_reducible assumption))))).mono ?_); rintro e w7 ⟨rfl, rfl⟩) | (go_at_call 12; (with_reducible refine (HCd2.out _ (by repeat (first | (with_reducible exact Ext.refl _) | (with_reducible assumption) | (with_reducible refine Ext.drewN ?_ _) | (with_reducible refine Ext.drew ?_) | (with_reducible refine Ext.alloc ?_ _) | ((with_reducible refine Ext.setCell ?_ ?_ _); rotate_left; focus (first | (simp; done) | (simp; omega) | omega)) | (with_reducible refine Ext.trans ?_ (by with_reducible assumption))))).mono ?_); rintro e w8 ⟨a8, c8, ps, rfl, hx8, ho8, _, hc8⟩; rw [HRo.out]))
    have hIs : IsC (putsF D bs t 0) ps := by
      have h := hc8 HRo.out bs HBs.out
      rw [HTe.out, HDt.out] at h
      exact h
    have HOk := Lib.hid (cdsOk_of Hok.out Hval.out HBs.out hbs36.2 Hhd.out Hhl.out hkd HT.out hIs)
    have HAll := Lib.hid (hasI_all (cand_has Hok.out Hval.out HBs.out Hhd.out Hhl.out hkd HT.out hIs Hhck2.out))
    rw [← Hhs.out, ← HTe.out] at HOk
    rw [← Hhs.out] at HAll
    have hpl := isC_len hbs36.2 (by rw [htl]; omega) hIs
    have HO8 := Lib.hid ho8
    have hx8b : Ext wb w8 := hxb6.trans hx8
    have hx8w : Ext w w8 := hxw6.trans hx8
    clear ho8 hc8 hIs
    obtain ⟨pn, hpn⟩ : ∃ m, m = ps.length := ⟨_, rfl⟩
    have HPn := Lib.hid hpn
    rw [← hpn] at HO8 hpl HAll ⊢
    clear hpn
    go_loopw [16, 17] (fun v16 v17 wr => ∃ i : Nat, i ≤ pn ∧ v16 = .bool (hasI s ps i) ∧ v17 = .int .i64 i ∧ Ext w8 wr) (fun _ v17 _ => pn - (intOf v17).toNat)
    case atStart => exact ⟨0, Nat.zero_le _, rfl, rfl, Ext.refl _⟩
    case round =>
      obtain ⟨i, hi, rfl, rfl, hxr⟩ := hrel
      have hxrb : Ext wb wr := hx8b.trans hxr
      by_cases hlt : i < pn
      · obtain ⟨kk, hv2, hk5, husz, hub, huc, hut, hul, huk⟩ := HOk.out i (by rw [← HPn.out]; exact hlt)
        have HSt := Lib.hid (hasI_step (s := s) (show i < ps.length by rw [← HPn.out]; exact hlt))
        obtain ⟨g8, rfl, _, _⟩ := HO8.out.someG (by omega)
        obtain ⟨cu, cv⟩ := cd_cells HO8.out HPn.out.symm hlt
        rw [hv2] at cv
        obtain ⟨u, hu⟩ : ∃ u, u = (gp ps i).1 := ⟨_, rfl⟩
        rw [← hu] at husz hub huc hut hul huk cu HSt
        have hlt8 : g8 < w8.heap.size := (World.ownsRow.lt HO8.out g8 rfl).2
        have cu' : ∀ w', Ext w8 w' → w'.cell? ⟨g8, i * 2, none⟩ = some (.string u) := fun w' h => ((bcell h).1 _ _ hlt8).trans cu
        have cv' : ∀ w', Ext w8 w' → w'.cell? ⟨g8, i * 2 + 1, none⟩ = some (.int .i64 kk) := fun w' h => ((bcell h).1 _ _ hlt8).trans cv
        have hix := cd_ix g8 pn c8 .i64 i hlt
        have HW2 := Lib.hid (fun W => HWw.out kk hk5 u W husz)
        rw [hub] at HW2
        have HIC2 := Lib.hid (fun W (h : Ext wb W) => HIC.out u W husz h)
        rw [huc] at HIC2
        have HHas := Lib.hid (fun a c W (h : Strs W a (wwV kk bs u).length c (wwV kk bs u)) => laws_hasText a (wwV kk bs u).length c (wwV kk bs u) ty W h hul hut)
        obtain ⟨LL, hLL⟩ : ∃ LL, LL = wwV kk bs u := ⟨_, rfl⟩
        rw [← hLL] at HHas HW2
        clear hLL hu hv2 husz hub huc hut hul cu cv
        go_wp2_with fail
        (refine wp_region_from wr (by repeat (first | (with_reducible exact Ext.refl _) | (with_reducible refine Ext.drewN ?_ _) | (with_reducible refine Ext.drew ?_) | (with_reducible refine Ext.alloc ?_ _) | ((with_reducible refine Ext.setCell ?_ ?_ _); rotate_left; focus (first | (simp; done) | (simp; omega) | omega)) | assumption | (with_reducible refine Ext.trans ?_ (by assumption)))) (by kernel_rfl) (by kernel_rfl) (by kernel_rfl) ?_; (repeat (first | (refine mix_q rfl ?_; go_big_quiet_step (fail); refine wpQuiet_nil ?_; show wpMix _ _ _ _ _ _ _) | (refine mix_s rfl ?_; go_wp2_with ((go_at_call 11; (with_reducible refine (HW2.out _).mono ?_); rintro e w9 ⟨a9, c9, rfl, ho9, hy9⟩; have hx9 : Ext wr w9 := Ext.trans (by repeat (first | (with_reducible exact Ext.refl _) | (with_reducible assumption) | (with_reducible refine Ext.drewN ?_ _) | (with_reducible refine Ext.drew ?_) | (with_reducible refine Ext.alloc ?_ _) | ((with_reducible refine Ext.setCell ?_ ?_ _); rotate_left; focus (first | (simp; done) | (simp; omega) | omega)) | (with_reducible refine Ext.trans ?_ (by with_reducible assumption)))) hy9; clear hy9)); first | refine ⟨up_of (by repeat (first | (with_reducible exact Ext.refl _) | (with_reducible refine Ext.drewN ?_ _) | (with_reducible refine Ext.drew ?_) | (with_reducible refine Ext.alloc ?_ _) | ((with_reducible refine Ext.setCell ?_ ?_ _); rotate_left; focus (first | (simp; done) | (simp; omega) | omega)) | assumption | (with_reducible refine Ext.trans ?_ (by assumption)))), ?_⟩ | refine ⟨rfl, rfl, up_of (by repeat (first | (with_reducible exact Ext.refl _) | (with_reducible refine Ext.drewN ?_ _) | (with_reducible refine Ext.drew ?_) | (with_reducible refine Ext.alloc ?_ _) | ((with_reducible refine Ext.setCell ?_ ?_ _); rotate_left; focus (first | (simp; done) | (simp; omega) | omega)) | assumption | (with_reducible refine Ext.trans ?_ (by assumption)))), ?_⟩))); refine mix_nil ?_)
        have hxb9 : Ext wb w9 := hxrb.trans hx9
        have hx89 : Ext w8 w9 := hxr.trans hx9
        have HO9 := Lib.hid ho9
        clear ho9
        by_cases hus : u = s
        · have hq1 : (u.toList == s.toList) = true := bs_iff.2 hus
          have hle := huk hus
          have HSt2 := Lib.hid (show hasI s ps (i + 1) = true by rw [HSt.out, decide_eq_true hus, Bool.or_true])
          clear hus huk HSt
          go_wp2_with fail
          (refine wp_region_from w9 (by repeat (first | (with_reducible exact Ext.refl _) | (with_reducible refine Ext.drewN ?_ _) | (with_reducible refine Ext.drew ?_) | (with_reducible refine Ext.alloc ?_ _) | ((with_reducible refine Ext.setCell ?_ ?_ _); rotate_left; focus (first | (simp; done) | (simp; omega) | omega)) | assumption | (with_reducible refine Ext.trans ?_ (by assumption)))) (by kernel_rfl) (by kernel_rfl) (by kernel_rfl) ?_; (repeat (first | (refine mix_q rfl ?_; go_big_quiet_step (fail); refine wpQuiet_nil ?_; show wpMix _ _ _ _ _ _ _) | (refine mix_s rfl ?_; go_wp2_with ((first | (go_at_call 13; (with_reducible refine (HIC2.out _ (by repeat (first | (with_reducible exact Ext.refl _) | (with_reducible assumption) | (with_reducible refine Ext.drewN ?_ _) | (with_reducible refine Ext.drew ?_) | (with_reducible refine Ext.alloc ?_ _) | ((with_reducible refine Ext.setCell ?_ ?_ _); rotate_left; focus (first | (simp; done) | (simp; omega) | omega)) | (with_reducible refine Ext.trans ?_ (by with_reducible assumption))))).mono ?_); rintro e w10 ⟨rfl, hy10⟩; have hx10 : Ext w9 w10 := Ext.trans (by repeat (first | (with_reducible exact Ext.refl _) | (with_reducible assumption) | (with_reducible refine Ext.drewN ?_ _) | (with_reducible refine Ext.drew ?_) | (with_reducible refine Ext.alloc ?_ _) | ((with_reducible refine Ext.setCell ?_ ?_ _); rotate_left; focus (first | (simp; done) | (simp; omega) | omega)) | (with_reducible refine Ext.trans ?_ (by with_reducible assumption)))) hy10; clear hy10) | (go_at_call 14; (with_reducible refine (HHas.out a9 c9 _ (Strs.ext HO9.out (by repeat (first | (with_reducible exact Ext.refl _) | (with_reducible assumption) | (with_reducible refine Ext.drewN ?_ _) | (with_reducible refine Ext.drew ?_) | (with_reducible refine Ext.alloc ?_ _) | ((with_reducible refine Ext.setCell ?_ ?_ _); rotate_left; focus (first | (simp; done) | (simp; omega) | omega)) | (with_reducible refine Ext.trans ?_ (by with_reducible assumption)))))).mono ?_); rintro e w11 ⟨rfl, hy11⟩; have hx11 : Ext w9 w11 := Ext.trans (by repeat (first | (with_reducible exact Ext.refl _) | (with_reducible assumption) | (with_reducible refine Ext.drewN ?_ _) | (with_reducible refine Ext.drew ?_) | (with_reducible refine Ext.alloc ?_ _) | ((with_reducible refine Ext.setCell ?_ ?_ _); rotate_left; focus (first | (simp; done) | (simp; omega) | omega)) | (with_reducible refine Ext.trans ?_ (by with_reducible assumption)))) hy11; clear hy11))); first | refine ⟨up_of (by repeat (first | (with_reducible exact Ext.refl _) | (with_reducible refine Ext.drewN ?_ _) | (with_reducible refine Ext.drew ?_) | (with_reducible refine Ext.alloc ?_ _) | ((with_reducible refine Ext.setCell ?_ ?_ _); rotate_left; focus (first | (simp; done) | (simp; omega) | omega)) | assumption | (with_reducible refine Ext.trans ?_ (by assumption)))), ?_⟩ | refine ⟨rfl, rfl, up_of (by repeat (first | (with_reducible exact Ext.refl _) | (with_reducible refine Ext.drewN ?_ _) | (with_reducible refine Ext.drew ?_) | (with_reducible refine Ext.alloc ?_ _) | ((with_reducible refine Ext.setCell ?_ ?_ _); rotate_left; focus (first | (simp; done) | (simp; omega) | omega)) | assumption | (with_reducible refine Ext.trans ?_ (by assumption)))), ?_⟩))); refine mix_nil ?_)
          have hx8e : Ext w8 w11 := hx89.trans (by repeat (first | (with_reducible exact Ext.refl _) | (with_reducible assumption) | (with_reducible refine Ext.drewN ?_ _) | (with_reducible refine Ext.drew ?_) | (with_reducible refine Ext.alloc ?_ _) | ((with_reducible refine Ext.setCell ?_ ?_ _); rotate_left; focus (first | (simp; done) | (simp; omega) | omega)) | (with_reducible refine Ext.trans ?_ (by with_reducible assumption))))
          go_wp2_with fail
          all_goals exact ⟨⟨i + 1, hlt, (by rw [HSt2.out]; first | done | rfl | simp [*] | simp_all), by go_num, (by repeat (first | (with_reducible exact Ext.refl _) | (with_reducible assumption) | (with_reducible refine Ext.drewN ?_ _) | (with_reducible refine Ext.drew ?_) | (with_reducible refine Ext.alloc ?_ _) | ((with_reducible refine Ext.setCell ?_ ?_ _); rotate_left; focus (first | (simp; done) | (simp; omega) | omega)) | (with_reducible refine Ext.trans ?_ (by with_reducible assumption))))⟩, by simp [intOf]; omega⟩
        · have hq1 : (u.toList == s.toList) = false := by rw [Bool.eq_false_iff]; intro h; exact hus (bs_iff.1 h)
          have HSt2 := Lib.hid (show hasI s ps (i + 1) = hasI s ps i by rw [HSt.out, decide_eq_false hus, Bool.or_false])
          clear hus huk HSt
          go_wp2_with fail
          (refine wp_region_from w9 (by repeat (first | (with_reducible exact Ext.refl _) | (with_reducible refine Ext.drewN ?_ _) | (with_reducible refine Ext.drew ?_) | (with_reducible refine Ext.alloc ?_ _) | ((with_reducible refine Ext.setCell ?_ ?_ _); rotate_left; focus (first | (simp; done) | (simp; omega) | omega)) | assumption | (with_reducible refine Ext.trans ?_ (by assumption)))) (by kernel_rfl) (by kernel_rfl) (by kernel_rfl) ?_; (repeat (first | (refine mix_q rfl ?_; go_big_quiet_step (fail); refine wpQuiet_nil ?_; show wpMix _ _ _ _ _ _ _) | (refine mix_s rfl ?_; go_wp2_with ((first | (go_at_call 13; (with_reducible refine (HIC2.out _ (by repeat (first | (with_reducible exact Ext.refl _) | (with_reducible assumption) | (with_reducible refine Ext.drewN ?_ _) | (with_reducible refine Ext.drew ?_) | (with_reducible refine Ext.alloc ?_ _) | ((with_reducible refine Ext.setCell ?_ ?_ _); rotate_left; focus (first | (simp; done) | (simp; omega) | omega)) | (with_reducible refine Ext.trans ?_ (by with_reducible assumption))))).mono ?_); rintro e w10 ⟨rfl, hy10⟩; have hx10 : Ext w9 w10 := Ext.trans (by repeat (first | (with_reducible exact Ext.refl _) | (with_reducible assumption) | (with_reducible refine Ext.drewN ?_ _) | (with_reducible refine Ext.drew ?_) | (with_reducible refine Ext.alloc ?_ _) | ((with_reducible refine Ext.setCell ?_ ?_ _); rotate_left; focus (first | (simp; done) | (simp; omega) | omega)) | (with_reducible refine Ext.trans ?_ (by with_reducible assumption)))) hy10; clear hy10) | (go_at_call 14; (with_reducible refine (HHas.out a9 c9 _ (Strs.ext HO9.out (by repeat (first | (with_reducible exact Ext.refl _) | (with_reducible assumption) | (with_reducible refine Ext.drewN ?_ _) | (with_reducible refine Ext.drew ?_) | (with_reducible refine Ext.alloc ?_ _) | ((with_reducible refine Ext.setCell ?_ ?_ _); rotate_left; focus (first | (simp; done) | (simp; omega) | omega)) | (with_reducible refine Ext.trans ?_ (by with_reducible assumption)))))).mono ?_); rintro e w11 ⟨rfl, hy11⟩; have hx11 : Ext w9 w11 := Ext.trans (by repeat (first | (with_reducible exact Ext.refl _) | (with_reducible assumption) | (with_reducible refine Ext.drewN ?_ _) | (with_reducible refine Ext.drew ?_) | (with_reducible refine Ext.alloc ?_ _) | ((with_reducible refine Ext.setCell ?_ ?_ _); rotate_left; focus (first | (simp; done) | (simp; omega) | omega)) | (with_reducible refine Ext.trans ?_ (by with_reducible assumption)))) hy11; clear hy11))); first | refine ⟨up_of (by repeat (first | (with_reducible exact Ext.refl _) | (with_reducible refine Ext.drewN ?_ _) | (with_reducible refine Ext.drew ?_) | (with_reducible refine Ext.alloc ?_ _) | ((with_reducible refine Ext.setCell ?_ ?_ _); rotate_left; focus (first | (simp; done) | (simp; omega) | omega)) | assumption | (with_reducible refine Ext.trans ?_ (by assumption)))), ?_⟩ | refine ⟨rfl, rfl, up_of (by repeat (first | (with_reducible exact Ext.refl _) | (with_reducible refine Ext.drewN ?_ _) | (with_reducible refine Ext.drew ?_) | (with_reducible refine Ext.alloc ?_ _) | ((with_reducible refine Ext.setCell ?_ ?_ _); rotate_left; focus (first | (simp; done) | (simp; omega) | omega)) | assumption | (with_reducible refine Ext.trans ?_ (by assumption)))), ?_⟩))); refine mix_nil ?_)
          have hx8e : Ext w8 w11 := hx89.trans (by repeat (first | (with_reducible exact Ext.refl _) | (with_reducible assumption) | (with_reducible refine Ext.drewN ?_ _) | (with_reducible refine Ext.drew ?_) | (with_reducible refine Ext.alloc ?_ _) | ((with_reducible refine Ext.setCell ?_ ?_ _); rotate_left; focus (first | (simp; done) | (simp; omega) | omega)) | (with_reducible refine Ext.trans ?_ (by with_reducible assumption))))
          go_wp2_with fail
          all_goals exact ⟨⟨i + 1, hlt, (by rw [HSt2.out]; first | done | rfl | simp [*] | simp_all), by go_num, (by repeat (first | (with_reducible exact Ext.refl _) | (with_reducible assumption) | (with_reducible refine Ext.drewN ?_ _) | (with_reducible refine Ext.drew ?_) | (with_reducible refine Ext.alloc ?_ _) | ((with_reducible refine Ext.setCell ?_ ?_ _); rotate_left; focus (first | (simp; done) | (simp; omega) | omega)) | (with_reducible refine Ext.trans ?_ (by with_reducible assumption))))⟩, by simp [intOf]; omega⟩
      · obtain rfl : i = pn := by omega
        rw [HAll.out]
        go_wp2_with fail
        go_ret
        exact ⟨rfl, hx8w.trans hxr⟩
end Go.Proofs.YtbcfbkhbangeoaaGreat
