/- Walks: MeasurePattern, MeasureEdges in the reference. -/
import Derived.Test.YtnmkckghfckgbaaMeas2
namespace Go.Proofs.Ytnmkckghfckgbaa
set_option maxRecDepth 100000
open Go.RowKit

set_option maxHeartbeats 1000000 in
theorem spec_l08Widths (D : Bc) (p : Nat) (a b : Option Addr) (n c m d : Nat) (ws : List Int) (w : World) (hv : BcAt w p D a n c) (hn : n ≤ 1048576) (hs : D.start.size ≤ 1048576) (ht : D.stop.size ≤ 1048576) (hp : ∀ p ∈ D.pats, p.size ≤ 1048576) (hw : Ints w b m d ws) (hm : m ≤ 1048576) :
    Calls Try.prog 64 #[.pointer (some ⟨p, 0, none⟩), .slice b m d] w (Ret (.bool (validBc D && widthsB D ws)) w) := by
  have HL := Lib.hid hv.ps.len
  have HWl := Lib.hid hw.len
  have HVB := Lib.hid (spec_l08Is D p a n c _ hv hn hs ht hp)
  obtain ⟨wb, woff, wix, wcell⟩ := hw.ix (P := Try.prog) 36 2 und_int64s cell_int64
  obtain ⟨c0, c1, c2, c3, hps⟩ := hv
  obtain ⟨pb, off, hix, hcell⟩ := hps.ix (P := Try.prog) 22 9 und_strings cell_string
  have Hhps := Lib.hid hps; clear hps; have Hhw := Lib.hid hw; clear hw
  cases hval : validBc D
  · rw [hval] at HVB
    go_enter Try.func64, Try.ntmps64
    go_wp2_with (refine HVB.out.mono ?_; rintro e w1 ⟨rfl, hx⟩)
    go_ret
    exact ⟨rfl, (by repeat (first | (with_reducible exact Ext.refl _) | (with_reducible refine Ext.drewN ?_ _) | (with_reducible refine Ext.drew ?_) | (with_reducible refine Ext.alloc ?_ _) | ((with_reducible refine Ext.setCell ?_ ?_ _); rotate_left; focus (first | (simp; done) | (simp; omega) | omega)) | assumption | (with_reducible refine Ext.trans ?_ (by assumption))))⟩
  rw [hval] at HVB
  have hz := (validBc_ok hval).n1
  rw [HL.out] at hz
  have hz2 : 0 < n := by omega
  have hcell0 : ∀ w', Ext w w' → w'.cell? ⟨pb, off, none⟩ = some (.string (gs D.pats 0)) := fun w' h => hcell 0 w' (by omega) h
  clear hval
  by_cases he : m = (gs D.pats 0).size
  · have hb : ((m : Int) != (gs D.pats 0).size) = false := by simp; omega
    have HA := Lib.hid (show (true && widthsB D ws) = ws.all fun x => inB x 1 100000 by rw [widthsB, HWl.out]; simp [he])
    have Hhe := Lib.hid he; clear he
    go_enter Try.func64, Try.ntmps64
    go_wp2_with (refine HVB.out.mono ?_; rintro e w1 ⟨rfl, hx⟩)
    go_loopw [5] (fun i wr => ∃ k : Nat, k ≤ m ∧ i = .int .i64 k ∧ (ws.take k).all (fun x => inB x 1 100000) = true ∧ Ext w wr) (fun i _ => m - (intOf i).toNat)
    case atStart => exact ⟨0, Nat.zero_le _, rfl, rfl, (by repeat (first | (with_reducible exact Ext.refl _) | (with_reducible refine Ext.drewN ?_ _) | (with_reducible refine Ext.drew ?_) | (with_reducible refine Ext.alloc ?_ _) | ((with_reducible refine Ext.setCell ?_ ?_ _); rotate_left; focus (first | (simp; done) | (simp; omega) | omega)) | assumption | (with_reducible refine Ext.trans ?_ (by assumption))))⟩
    case round =>
      obtain ⟨k, hk, rfl, hal, hxr⟩ := hrel
      have Hhal := Lib.hid hal; clear hal
      by_cases hlt : k < m
      · have HS := Lib.hid (fun h => all_step (p := fun x => inB x 1 100000) (l := ws) (k := k) (x := gi ws k) (by rw [HWl.out]; exact hlt) rfl h Hhal.out)
        have HN := Lib.hid (fun h => all_no (p := fun x => inB x 1 100000) (l := ws) (k := k) (x := gi ws k) (by rw [HWl.out]; exact hlt) rfl h)
        go_wp2_with (go_at_call 93; refine (spec_in _ _ _ _).mono ?_; rintro e w' ⟨rfl, rfl⟩)
        · have h := HN.out (by simpa using ‹(!inB _ _ _) = true›)
          go_ret
          exact ⟨rb (by rw [HA.out, h]), (by repeat (first | (with_reducible exact Ext.refl _) | (with_reducible refine Ext.drewN ?_ _) | (with_reducible refine Ext.drew ?_) | (with_reducible refine Ext.alloc ?_ _) | ((with_reducible refine Ext.setCell ?_ ?_ _); rotate_left; focus (first | (simp; done) | (simp; omega) | omega)) | assumption | (with_reducible refine Ext.trans ?_ (by assumption))))⟩
        · exact ⟨⟨k + 1, by omega, by go_num, HS.out (by simpa using ‹(!inB _ _ _) = false›), (by repeat (first | (with_reducible exact Ext.refl _) | (with_reducible refine Ext.drewN ?_ _) | (with_reducible refine Ext.drew ?_) | (with_reducible refine Ext.alloc ?_ _) | ((with_reducible refine Ext.setCell ?_ ?_ _); rotate_left; focus (first | (simp; done) | (simp; omega) | omega)) | assumption | (with_reducible refine Ext.trans ?_ (by assumption))))⟩, by simp [intOf]; omega⟩
      · go_wp2
        go_ret
        exact ⟨rb (by rw [HA.out]; have := Hhal.out; rw [take_full (by rw [HWl.out]; omega)] at this; rw [this]), (by repeat (first | (with_reducible exact Ext.refl _) | (with_reducible refine Ext.drewN ?_ _) | (with_reducible refine Ext.drew ?_) | (with_reducible refine Ext.alloc ?_ _) | ((with_reducible refine Ext.setCell ?_ ?_ _); rotate_left; focus (first | (simp; done) | (simp; omega) | omega)) | assumption | (with_reducible refine Ext.trans ?_ (by assumption))))⟩
  · have hb : ((m : Int) != (gs D.pats 0).size) = true := by simp; omega
    go_enter Try.func64, Try.ntmps64
    go_wp2_with (refine HVB.out.mono ?_; rintro e w1 ⟨rfl, hx⟩)
    go_ret
    exact ⟨rb (by rw [widthsB, HWl.out]; simp; intro h; omega), (by repeat (first | (with_reducible exact Ext.refl _) | (with_reducible refine Ext.drewN ?_ _) | (with_reducible refine Ext.drew ?_) | (with_reducible refine Ext.alloc ?_ _) | ((with_reducible refine Ext.setCell ?_ ?_ _); rotate_left; focus (first | (simp; done) | (simp; omega) | omega)) | assumption | (with_reducible refine Ext.trans ?_ (by assumption))))⟩

set_option maxHeartbeats 4000000 in
theorem spec_measure_id (D : Bc) (p : Nat) (a b : Option Addr) (n c m d : Nat) (ws : List Int) (w : World) (hv : BcAt w p D a n c) (hw : Ints w b m d ws) (hok : MeasOk D ws n m) :
    Calls Try.prog 65 #[.pointer (some ⟨p, 0, none⟩), .slice b m d, .bool false] w (Ret2 (.int .i64 (measS D ws idL).1) (.bool ((measS D ws idL).2.2 == 1)) w) := by
  have HL := Lib.hid hv.ps.len
  have HWl := Lib.hid hw.len
  have HWi := Lib.hid hw
  have HK := Lib.hid hok
  have hn1 := hok.n1
  have hn36 := hok.n36
  have hm10 := hok.m10
  obtain ⟨c0, c1, c2, c3, hps⟩ := hv
  obtain ⟨pb, off, hix, hcell⟩ := hps.ix (P := Try.prog) 22 9 und_strings cell_string
  have HSw := Lib.hid (fun W h => spec_l08Sum b m d ws W h (fun x hx => by have := hok.up x hx; omega) (by omega))
  have HE := Lib.hid (fun k (hk : k < n) W => spec_elements (gs D.pats k) W (by have := hok.size k hk; omega) (hok.chars k hk))
  have HS0 := Lib.hid (fun a c W h => spec_l08Sum a m c (elsL (gs D.pats 0).data.toList) W h (fun x hx => by have := hok.els 0 (by omega) x hx; omega) (by omega))
  have HSt := Lib.hid (show measS D ws idL = mst (farI D ws idL) n by rw [measS, HL.out])
  have HOf := Lib.hid (fun W h => spec_l08Edges b m d ws W h (fun x hx => by have := hok.up x hx; omega) (by omega))
  have HMp := Lib.hid (fun i (hi : i < n) a b c d W h h' => spec_miss a b m m c d ws (elsL (gs D.pats i).data.toList) (elsL (gs D.pats 0).data.toList).sum ws.sum W h h' (hok.up.mono (by omega)) ((hok.els i hi).mono (by omega)) (by omega) (Nat.le_refl _) hok.m0.1 (by have := hok.m0; omega) hok.t0.1 (by have := hok.t0; omega))
  have HM := Lib.hid (fun i (hi : i < n) a b c d W h h' => spec_miss a b m m c d (idL ws) (idL (elsL (gs D.pats i).data.toList)) (elsL (gs D.pats 0).data.toList).sum ws.sum W h h' (hok.up.mono (by omega)) ((hok.els i hi).mono (by omega)) (by omega) (Nat.le_refl _) hok.m0.1 (by have := hok.m0; omega) hok.t0.1 (by have := hok.t0; omega))
  have HMF := Lib.hid (fun i (hi : i < n) => show missL (elsL (gs D.pats 0).data.toList).sum ws.sum ((idL ws).take m) ((idL (elsL (gs D.pats i).data.toList)).take m) = farI D ws idL i by
    rw [take_full (by unfold idL; rw [HWl.out]; exact Nat.le_refl _), take_full (by unfold idL; rw [hok.len i hi]; exact Nat.le_refl _)]; rfl)
  have HBd := Lib.hid (mst_bd (f := farI D ws idL) (c := 343597383680) (n := n) (by omega) fun i hi => far_bd hok idL (fun l r h1 h2 => by unfold idL; omega) (hok.up.mono (by omega)) (fun k hi => (hok.els k hi).mono (by omega)) (by unfold idL; have := hok.wl; omega) i hi)
  have Hhps := Lib.hid hps; clear hps; have Hhw := Lib.hid hw; clear hw; have Hhok := Lib.hid hok; clear hok
  go_enter Try.func65, Try.ntmps65
  have hz : 0 < n := by omega
  have hcell0 : ∀ w', Ext w w' → w'.cell? ⟨pb, off, none⟩ = some (.string (gs D.pats 0)) := fun w' h => hcell 0 w' (by omega) h
  have HE0 := Lib.hid (HE.out 0 hz)
  have HSl0 := Lib.hid (HK.out.len 0 hz)
  go_wp2_with (first | ((with_reducible refine (HSw.out _ (HWi.out.ext (by repeat (first | (with_reducible exact Ext.refl _) | (with_reducible refine Ext.drewN ?_ _) | (with_reducible refine Ext.drew ?_) | (with_reducible refine Ext.alloc ?_ _) | ((with_reducible refine Ext.setCell ?_ ?_ _); rotate_left; focus (first | (simp; done) | (simp; omega) | omega)) | assumption | (with_reducible refine Ext.trans ?_ (by assumption)))))).mono ?_); rintro e w' ⟨rfl, rfl⟩) | ((with_reducible refine (HE0.out _).mono ?_); rintro e w2 ⟨a2, c2, rfl, ho2, hy2⟩; rw [I_len, HSl0.out] at ho2 ⊢; have hxw2 : Ext w w2 := Ext.trans (by repeat (first | (with_reducible exact Ext.refl _) | (with_reducible refine Ext.drewN ?_ _) | (with_reducible refine Ext.drew ?_) | (with_reducible refine Ext.alloc ?_ _) | ((with_reducible refine Ext.setCell ?_ ?_ _); rotate_left; focus (first | (simp; done) | (simp; omega) | omega)) | assumption | (with_reducible refine Ext.trans ?_ (by assumption)))) hy2; have HO2 := Lib.hid ho2; clear ho2 hy2) | ((with_reducible refine (HS0.out _ _ _ HO2.out.ints).mono ?_); rintro e w' ⟨rfl, rfl⟩))
  clear HE0 HSl0 hcell0
  generalize hm0 : (elsL (gs D.pats 0).data.toList).sum = m0 at *
  generalize ht0 : ws.sum = t0 at *
  have Hhm0 := Lib.hid hm0; clear hm0; have Hht0 := Lib.hid ht0; clear ht0
  go_loopw [10, 11, 12, 13] (fun s10 s11 s12 i wr => ∃ (k best : Nat) (least many : Int), k ≤ n ∧ i = .int .i64 k ∧ s10 = .int .i64 best ∧ s11 = .int .i64 least ∧ s12 = .int .i64 many ∧ Hid (mst (farI D ws idL) k = (best, least, many)) ∧ Ext w wr) (fun _ _ _ i _ => n - (intOf i).toNat)
  case atStart => exact ⟨0, 0, -1, 0, Nat.zero_le _, rfl, rfl, rfl, rfl, rfl, (by repeat (first | (with_reducible exact Ext.refl _) | (with_reducible refine Ext.drewN ?_ _) | (with_reducible refine Ext.drew ?_) | (with_reducible refine Ext.alloc ?_ _) | ((with_reducible refine Ext.setCell ?_ ?_ _); rotate_left; focus (first | (simp; done) | (simp; omega) | omega)) | assumption | (with_reducible refine Ext.trans ?_ (by assumption))))⟩
  case round =>
    obtain ⟨k, best, least, many, hk, rfl, rfl, rfl, rfl, HS, hx⟩ := hrel
    have hbd := HBd.out k hk
    rw [HS.out] at hbd
    simp only at hbd
    by_cases hlt : k < n
    · have HEi := Lib.hid (HE.out k hlt)
      have HSi := Lib.hid (HK.out.len k hlt)
      have HM1 := Lib.hid (HMp.out k hlt)
      have HMi := Lib.hid (HM.out k hlt)
      rw [HMF.out k hlt] at HMi
      have HM1 := HMi
      have HN := Lib.hid (show mst (farI D ws idL) (k + 1) = mstep (best, least, many) k (farI D ws idL k) by rw [mst, HS.out])
      
      generalize farI D ws idL k = f at *
      unfold mstep at HN
      simp only at HN
      by_cases h1 : least < 0 ∨ f < least
      · by_cases h2 : least < 0
        · go_wp2_with (first | ((with_reducible refine (HEi.out _).mono ?_); rintro e w3 ⟨a3, c3', rfl, ho3, hy3⟩; rw [I_len, HSi.out] at ho3 ⊢; have hxw3 : Ext w w3 := Ext.trans (by repeat (first | (with_reducible exact Ext.refl _) | (with_reducible refine Ext.drewN ?_ _) | (with_reducible refine Ext.drew ?_) | (with_reducible refine Ext.alloc ?_ _) | ((with_reducible refine Ext.setCell ?_ ?_ _); rotate_left; focus (first | (simp; done) | (simp; omega) | omega)) | assumption | (with_reducible refine Ext.trans ?_ (by assumption)))) hy3; have HO3 := Lib.hid ho3; clear ho3 hy3) | ((with_reducible refine (HM1.out _ _ _ _ _ (HWi.out.ext (by repeat (first | (with_reducible exact Ext.refl _) | (with_reducible refine Ext.drewN ?_ _) | (with_reducible refine Ext.drew ?_) | (with_reducible refine Ext.alloc ?_ _) | ((with_reducible refine Ext.setCell ?_ ?_ _); rotate_left; focus (first | (simp; done) | (simp; omega) | omega)) | assumption | (with_reducible refine Ext.trans ?_ (by assumption))))) HO3.out.ints).mono ?_); rintro e w5 ⟨rfl, hy5⟩; have hxw5 : Ext w w5 := Ext.trans (by repeat (first | (with_reducible exact Ext.refl _) | (with_reducible refine Ext.drewN ?_ _) | (with_reducible refine Ext.drew ?_) | (with_reducible refine Ext.alloc ?_ _) | ((with_reducible refine Ext.setCell ?_ ?_ _); rotate_left; focus (first | (simp; done) | (simp; omega) | omega)) | assumption | (with_reducible refine Ext.trans ?_ (by assumption)))) hy5; have HO3b := Lib.hid (HO3.out.ints.ext hy5); clear hy5))
          all_goals exact ⟨⟨k + 1, k, f, 1, by omega, by go_num, rfl, rfl, rfl, by rw [Hid, HN.out, if_pos (by omega)], (by repeat (first | (with_reducible exact Ext.refl _) | (with_reducible refine Ext.drewN ?_ _) | (with_reducible refine Ext.drew ?_) | (with_reducible refine Ext.alloc ?_ _) | ((with_reducible refine Ext.setCell ?_ ?_ _); rotate_left; focus (first | (simp; done) | (simp; omega) | omega)) | assumption | (with_reducible refine Ext.trans ?_ (by assumption))))⟩, by simp [intOf]; omega⟩
        · have h3 : f < least := by omega
          go_wp2_with (first | ((with_reducible refine (HEi.out _).mono ?_); rintro e w3 ⟨a3, c3', rfl, ho3, hy3⟩; rw [I_len, HSi.out] at ho3 ⊢; have hxw3 : Ext w w3 := Ext.trans (by repeat (first | (with_reducible exact Ext.refl _) | (with_reducible refine Ext.drewN ?_ _) | (with_reducible refine Ext.drew ?_) | (with_reducible refine Ext.alloc ?_ _) | ((with_reducible refine Ext.setCell ?_ ?_ _); rotate_left; focus (first | (simp; done) | (simp; omega) | omega)) | assumption | (with_reducible refine Ext.trans ?_ (by assumption)))) hy3; have HO3 := Lib.hid ho3; clear ho3 hy3) | ((with_reducible refine (HM1.out _ _ _ _ _ (HWi.out.ext (by repeat (first | (with_reducible exact Ext.refl _) | (with_reducible refine Ext.drewN ?_ _) | (with_reducible refine Ext.drew ?_) | (with_reducible refine Ext.alloc ?_ _) | ((with_reducible refine Ext.setCell ?_ ?_ _); rotate_left; focus (first | (simp; done) | (simp; omega) | omega)) | assumption | (with_reducible refine Ext.trans ?_ (by assumption))))) HO3.out.ints).mono ?_); rintro e w5 ⟨rfl, hy5⟩; have hxw5 : Ext w w5 := Ext.trans (by repeat (first | (with_reducible exact Ext.refl _) | (with_reducible refine Ext.drewN ?_ _) | (with_reducible refine Ext.drew ?_) | (with_reducible refine Ext.alloc ?_ _) | ((with_reducible refine Ext.setCell ?_ ?_ _); rotate_left; focus (first | (simp; done) | (simp; omega) | omega)) | assumption | (with_reducible refine Ext.trans ?_ (by assumption)))) hy5; have HO3b := Lib.hid (HO3.out.ints.ext hy5); clear hy5))
          all_goals exact ⟨⟨k + 1, k, f, 1, by omega, by go_num, rfl, rfl, rfl, by rw [Hid, HN.out, if_pos (by omega)], (by repeat (first | (with_reducible exact Ext.refl _) | (with_reducible refine Ext.drewN ?_ _) | (with_reducible refine Ext.drew ?_) | (with_reducible refine Ext.alloc ?_ _) | ((with_reducible refine Ext.setCell ?_ ?_ _); rotate_left; focus (first | (simp; done) | (simp; omega) | omega)) | assumption | (with_reducible refine Ext.trans ?_ (by assumption))))⟩, by simp [intOf]; omega⟩
      · have h2 : ¬ least < 0 := by omega
        have h3 : ¬ f < least := by omega
        by_cases h4 : f = least
        · have hb : (f == least) = true := by simpa using h4
          have Hh4 := Lib.hid h4; clear h4; have Hh1 := Lib.hid h1; clear h1
          go_wp2_with (first | ((with_reducible refine (HEi.out _).mono ?_); rintro e w3 ⟨a3, c3', rfl, ho3, hy3⟩; rw [I_len, HSi.out] at ho3 ⊢; have hxw3 : Ext w w3 := Ext.trans (by repeat (first | (with_reducible exact Ext.refl _) | (with_reducible refine Ext.drewN ?_ _) | (with_reducible refine Ext.drew ?_) | (with_reducible refine Ext.alloc ?_ _) | ((with_reducible refine Ext.setCell ?_ ?_ _); rotate_left; focus (first | (simp; done) | (simp; omega) | omega)) | assumption | (with_reducible refine Ext.trans ?_ (by assumption)))) hy3; have HO3 := Lib.hid ho3; clear ho3 hy3) | ((with_reducible refine (HM1.out _ _ _ _ _ (HWi.out.ext (by repeat (first | (with_reducible exact Ext.refl _) | (with_reducible refine Ext.drewN ?_ _) | (with_reducible refine Ext.drew ?_) | (with_reducible refine Ext.alloc ?_ _) | ((with_reducible refine Ext.setCell ?_ ?_ _); rotate_left; focus (first | (simp; done) | (simp; omega) | omega)) | assumption | (with_reducible refine Ext.trans ?_ (by assumption))))) HO3.out.ints).mono ?_); rintro e w5 ⟨rfl, hy5⟩; have hxw5 : Ext w w5 := Ext.trans (by repeat (first | (with_reducible exact Ext.refl _) | (with_reducible refine Ext.drewN ?_ _) | (with_reducible refine Ext.drew ?_) | (with_reducible refine Ext.alloc ?_ _) | ((with_reducible refine Ext.setCell ?_ ?_ _); rotate_left; focus (first | (simp; done) | (simp; omega) | omega)) | assumption | (with_reducible refine Ext.trans ?_ (by assumption)))) hy5; have HO3b := Lib.hid (HO3.out.ints.ext hy5); clear hy5))
          all_goals exact ⟨⟨k + 1, best, least, many + 1, by omega, by go_num, rfl, rfl, rfl, by rw [Hid, HN.out, if_neg (by omega), if_pos Hh4.out], (by repeat (first | (with_reducible exact Ext.refl _) | (with_reducible refine Ext.drewN ?_ _) | (with_reducible refine Ext.drew ?_) | (with_reducible refine Ext.alloc ?_ _) | ((with_reducible refine Ext.setCell ?_ ?_ _); rotate_left; focus (first | (simp; done) | (simp; omega) | omega)) | assumption | (with_reducible refine Ext.trans ?_ (by assumption))))⟩, by simp [intOf]; omega⟩
        · have hb : (f == least) = false := by simpa using h4
          have Hh4 := Lib.hid h4; clear h4; have Hh1 := Lib.hid h1; clear h1
          go_wp2_with (first | ((with_reducible refine (HEi.out _).mono ?_); rintro e w3 ⟨a3, c3', rfl, ho3, hy3⟩; rw [I_len, HSi.out] at ho3 ⊢; have hxw3 : Ext w w3 := Ext.trans (by repeat (first | (with_reducible exact Ext.refl _) | (with_reducible refine Ext.drewN ?_ _) | (with_reducible refine Ext.drew ?_) | (with_reducible refine Ext.alloc ?_ _) | ((with_reducible refine Ext.setCell ?_ ?_ _); rotate_left; focus (first | (simp; done) | (simp; omega) | omega)) | assumption | (with_reducible refine Ext.trans ?_ (by assumption)))) hy3; have HO3 := Lib.hid ho3; clear ho3 hy3) | ((with_reducible refine (HM1.out _ _ _ _ _ (HWi.out.ext (by repeat (first | (with_reducible exact Ext.refl _) | (with_reducible refine Ext.drewN ?_ _) | (with_reducible refine Ext.drew ?_) | (with_reducible refine Ext.alloc ?_ _) | ((with_reducible refine Ext.setCell ?_ ?_ _); rotate_left; focus (first | (simp; done) | (simp; omega) | omega)) | assumption | (with_reducible refine Ext.trans ?_ (by assumption))))) HO3.out.ints).mono ?_); rintro e w5 ⟨rfl, hy5⟩; have hxw5 : Ext w w5 := Ext.trans (by repeat (first | (with_reducible exact Ext.refl _) | (with_reducible refine Ext.drewN ?_ _) | (with_reducible refine Ext.drew ?_) | (with_reducible refine Ext.alloc ?_ _) | ((with_reducible refine Ext.setCell ?_ ?_ _); rotate_left; focus (first | (simp; done) | (simp; omega) | omega)) | assumption | (with_reducible refine Ext.trans ?_ (by assumption)))) hy5; have HO3b := Lib.hid (HO3.out.ints.ext hy5); clear hy5))
          all_goals exact ⟨⟨k + 1, best, least, many, by omega, by go_num, rfl, rfl, rfl, by rw [Hid, HN.out, if_neg (by omega), if_neg Hh4.out], (by repeat (first | (with_reducible exact Ext.refl _) | (with_reducible refine Ext.drewN ?_ _) | (with_reducible refine Ext.drew ?_) | (with_reducible refine Ext.alloc ?_ _) | ((with_reducible refine Ext.setCell ?_ ?_ _); rotate_left; focus (first | (simp; done) | (simp; omega) | omega)) | assumption | (with_reducible refine Ext.trans ?_ (by assumption))))⟩, by simp [intOf]; omega⟩
    · obtain rfl : k = n := by omega
      go_wp2
      go_ret2
      exact ⟨by rw [HSt.out, HS.out]; rfl, (by repeat (first | (with_reducible exact Ext.refl _) | (with_reducible refine Ext.drewN ?_ _) | (with_reducible refine Ext.drew ?_) | (with_reducible refine Ext.alloc ?_ _) | ((with_reducible refine Ext.setCell ?_ ?_ _); rotate_left; focus (first | (simp; done) | (simp; omega) | omega)) | assumption | (with_reducible refine Ext.trans ?_ (by assumption))))⟩
set_option maxHeartbeats 1000000 in
theorem spec_MeasurePattern (D : Bc) (a : Option Addr) (n c : Nat) (b : Option Addr) (m d : Nat) (ws : List Int) (w : World) (hv : Strs w a n c D.pats) (hn : n ≤ 1048576) (hs : D.start.size ≤ 1048576) (ht : D.stop.size ≤ 1048576) (hp : ∀ p ∈ D.pats, p.size ≤ 1048576) (hw : Ints w b m d ws) (hm : m ≤ 1048576) :
    Calls Try.prog 26 #[.agg #[.string D.start, .string D.stop, .slice a n c, .int .i64 D.gap], .slice b m d] w (Ret2 (.int .i64 (measRes D ws idL)) (.bool (measOkB D ws idL)) w) := by
  have HL := Lib.hid hv.len
  have HWl := Lib.hid hw.len
  have HW := Lib.hid hw
  have HB := Lib.hid (bc_box w D a n c 28 hv)
  have HWo := Lib.hid (fun W h h' => spec_l08Widths D w.heap.size a b n c m d ws W h hn hs ht hp h' hm)
  clear hv hw
  cases hvw : validBc D && widthsB D ws
  · rw [hvw] at HWo
    have HO := Lib.hid (show measOkB D ws idL = false ∧ measRes D ws idL = 0 by
      have e : measOkB D ws idL = false := by rw [measOkB, ← Bool.and_assoc, hvw]; rfl
      exact ⟨e, by rw [measRes, e]; rfl⟩)
    clear hvw
    go_enter Try.func26, Try.ntmps26
    go_wp2_with ((with_reducible refine (HWo.out _ HB.out (HW.out.ext (by repeat (first | (with_reducible exact Ext.refl _) | (with_reducible refine Ext.drewN ?_ _) | (with_reducible refine Ext.drew ?_) | (with_reducible refine Ext.alloc ?_ _) | ((with_reducible refine Ext.setCell ?_ ?_ _); rotate_left; focus (first | (simp; done) | (simp; omega) | omega)) | assumption | (with_reducible refine Ext.trans ?_ (by assumption)))))).mono ?_); rintro e w2 ⟨rfl, hx2⟩)
    go_ret2
    exact ret2_mk HO.out.2 HO.out.1 (by repeat (first | (with_reducible exact Ext.refl _) | (with_reducible refine Ext.drewN ?_ _) | (with_reducible refine Ext.drew ?_) | (with_reducible refine Ext.alloc ?_ _) | ((with_reducible refine Ext.setCell ?_ ?_ _); rotate_left; focus (first | (simp; done) | (simp; omega) | omega)) | assumption | (with_reducible refine Ext.trans ?_ (by assumption))))
  rw [hvw] at HWo
  have hvw2 := hvw
  simp only [Bool.and_eq_true] at hvw2
  obtain ⟨hval, hwb⟩ := hvw2
  have hok := validBc_ok hval
  have hwt := widthsB_t hwb
  have HM := Lib.hid (fun W h h' => spec_measure_id D w.heap.size a b n c m d ws W h h' (measOk hok HL.out HWl.out hwt.1 hwt.2))
  have HY := Lib.hid (fun h => meas_yes (of := idL) hval hwb h)
  have HN := Lib.hid (fun h => meas_no3 (D := D) (ws := ws) (of := idL) h)
  clear hval hwb hok hwt hvw
  generalize measS D ws idL = ms at *
  obtain ⟨ms1, ms2, ms3⟩ := ms
  simp only at HM HY HN
  go_enter Try.func26, Try.ntmps26
  go_wp2_with (first | ((with_reducible refine (HWo.out _ HB.out (HW.out.ext (by repeat (first | (with_reducible exact Ext.refl _) | (with_reducible refine Ext.drewN ?_ _) | (with_reducible refine Ext.drew ?_) | (with_reducible refine Ext.alloc ?_ _) | ((with_reducible refine Ext.setCell ?_ ?_ _); rotate_left; focus (first | (simp; done) | (simp; omega) | omega)) | assumption | (with_reducible refine Ext.trans ?_ (by assumption)))))).mono ?_); rintro e w2 ⟨rfl, hx2⟩) | ((with_reducible refine (HM.out _ (HB.out.ext hx2) (HW.out.ext (by repeat (first | (with_reducible exact Ext.refl _) | (with_reducible refine Ext.drewN ?_ _) | (with_reducible refine Ext.drew ?_) | (with_reducible refine Ext.alloc ?_ _) | ((with_reducible refine Ext.setCell ?_ ?_ _); rotate_left; focus (first | (simp; done) | (simp; omega) | omega)) | assumption | (with_reducible refine Ext.trans ?_ (by assumption)))))).mono ?_); rintro e w3 ⟨rfl, hx3⟩))
  · have h := HN.out (by simpa using ‹(!(ms3 == 1)) = true›)
    go_ret2
    exact ret2_mk h.2 h.1 (by repeat (first | (with_reducible exact Ext.refl _) | (with_reducible refine Ext.drewN ?_ _) | (with_reducible refine Ext.drew ?_) | (with_reducible refine Ext.alloc ?_ _) | ((with_reducible refine Ext.setCell ?_ ?_ _); rotate_left; focus (first | (simp; done) | (simp; omega) | omega)) | assumption | (with_reducible refine Ext.trans ?_ (by assumption))))
  · have h := HY.out (by simpa using ‹(!(ms3 == 1)) = false›)
    go_ret2
    exact ret2_mk h.2 h.1 (by repeat (first | (with_reducible exact Ext.refl _) | (with_reducible refine Ext.drewN ?_ _) | (with_reducible refine Ext.drew ?_) | (with_reducible refine Ext.alloc ?_ _) | ((with_reducible refine Ext.setCell ?_ ?_ _); rotate_left; focus (first | (simp; done) | (simp; omega) | omega)) | assumption | (with_reducible refine Ext.trans ?_ (by assumption))))
set_option maxHeartbeats 4000000 in
theorem spec_measure_ed (D : Bc) (p : Nat) (a b : Option Addr) (n c m d : Nat) (ws : List Int) (w : World) (hv : BcAt w p D a n c) (hw : Ints w b m d ws) (hok : MeasOk D ws n m) :
    Calls Try.prog 65 #[.pointer (some ⟨p, 0, none⟩), .slice b m d, .bool true] w (Ret2 (.int .i64 (measS D ws edgesL).1) (.bool ((measS D ws edgesL).2.2 == 1)) w) := by
  have HL := Lib.hid hv.ps.len
  have HWl := Lib.hid hw.len
  have HWi := Lib.hid hw
  have HK := Lib.hid hok
  have hn1 := hok.n1
  have hn36 := hok.n36
  have hm10 := hok.m10
  obtain ⟨c0, c1, c2, c3, hps⟩ := hv
  obtain ⟨pb, off, hix, hcell⟩ := hps.ix (P := Try.prog) 22 9 und_strings cell_string
  have HSw := Lib.hid (fun W h => spec_l08Sum b m d ws W h (fun x hx => by have := hok.up x hx; omega) (by omega))
  have HE := Lib.hid (fun k (hk : k < n) W => spec_elements (gs D.pats k) W (by have := hok.size k hk; omega) (hok.chars k hk))
  have HS0 := Lib.hid (fun a c W h => spec_l08Sum a m c (elsL (gs D.pats 0).data.toList) W h (fun x hx => by have := hok.els 0 (by omega) x hx; omega) (by omega))
  have HSt := Lib.hid (show measS D ws edgesL = mst (farI D ws edgesL) n by rw [measS, HL.out])
  have HOf := Lib.hid (fun W h => spec_l08Edges b m d ws W h (fun x hx => by have := hok.up x hx; omega) (by omega))
  have HMp := Lib.hid (fun i (hi : i < n) a b c d W h h' => spec_miss a b m m c d ws (elsL (gs D.pats i).data.toList) (elsL (gs D.pats 0).data.toList).sum ws.sum W h h' (hok.up.mono (by omega)) ((hok.els i hi).mono (by omega)) (by omega) (Nat.le_refl _) hok.m0.1 (by have := hok.m0; omega) hok.t0.1 (by have := hok.t0; omega))
  have HM := Lib.hid (fun i (hi : i < n) a b c d W h h' => spec_miss a b (m - 1) (m - 1) c d (edgesL ws) (edgesL (elsL (gs D.pats i).data.toList)) (elsL (gs D.pats 0).data.toList).sum ws.sum W h h' ((edges_up hok.up).mono (by omega)) ((edges_up (hok.els i hi)).mono (by omega)) (by omega) (Nat.le_refl _) hok.m0.1 (by have := hok.m0; omega) hok.t0.1 (by have := hok.t0; omega))
  have HMF := Lib.hid (fun i (hi : i < n) => show missL (elsL (gs D.pats 0).data.toList).sum ws.sum ((edgesL ws).take (m - 1)) ((edgesL (elsL (gs D.pats i).data.toList)).take (m - 1)) = farI D ws edgesL i by
    rw [take_full (by rw [edgesL_len, HWl.out]; exact Nat.le_refl _), take_full (by rw [edgesL_len, hok.len i hi]; exact Nat.le_refl _)]; rfl)
  have HBd := Lib.hid (mst_bd (f := farI D ws edgesL) (c := 343597383680) (n := n) (by omega) fun i hi => far_bd hok edgesL (fun l r h1 h2 => by rw [edgesL_len, edgesL_len]; omega) ((edges_up hok.up).mono (by omega)) (fun k hi => (edges_up (hok.els k hi)).mono (by omega)) (by rw [edgesL_len]; have := hok.wl; omega) i hi)
  have Hhps := Lib.hid hps; clear hps; have Hhw := Lib.hid hw; clear hw; have Hhok := Lib.hid hok; clear hok
  go_enter Try.func65, Try.ntmps65
  have hz : 0 < n := by omega
  have hcell0 : ∀ w', Ext w w' → w'.cell? ⟨pb, off, none⟩ = some (.string (gs D.pats 0)) := fun w' h => hcell 0 w' (by omega) h
  have HE0 := Lib.hid (HE.out 0 hz)
  have HSl0 := Lib.hid (HK.out.len 0 hz)
  go_wp2_with (first | ((with_reducible refine (HSw.out _ (HWi.out.ext (by repeat (first | (with_reducible exact Ext.refl _) | (with_reducible refine Ext.drewN ?_ _) | (with_reducible refine Ext.drew ?_) | (with_reducible refine Ext.alloc ?_ _) | ((with_reducible refine Ext.setCell ?_ ?_ _); rotate_left; focus (first | (simp; done) | (simp; omega) | omega)) | assumption | (with_reducible refine Ext.trans ?_ (by assumption)))))).mono ?_); rintro e w' ⟨rfl, rfl⟩) | ((with_reducible refine (HE0.out _).mono ?_); rintro e w2 ⟨a2, c2, rfl, ho2, hy2⟩; rw [I_len, HSl0.out] at ho2 ⊢; have hxw2 : Ext w w2 := Ext.trans (by repeat (first | (with_reducible exact Ext.refl _) | (with_reducible refine Ext.drewN ?_ _) | (with_reducible refine Ext.drew ?_) | (with_reducible refine Ext.alloc ?_ _) | ((with_reducible refine Ext.setCell ?_ ?_ _); rotate_left; focus (first | (simp; done) | (simp; omega) | omega)) | assumption | (with_reducible refine Ext.trans ?_ (by assumption)))) hy2; have HO2 := Lib.hid ho2; clear ho2 hy2) | ((with_reducible refine (HS0.out _ _ _ HO2.out.ints).mono ?_); rintro e w' ⟨rfl, rfl⟩))
  clear HE0 HSl0 hcell0
  generalize hm0 : (elsL (gs D.pats 0).data.toList).sum = m0 at *
  generalize ht0 : ws.sum = t0 at *
  have Hhm0 := Lib.hid hm0; clear hm0; have Hht0 := Lib.hid ht0; clear ht0
  go_loopw [10, 11, 12, 13] (fun s10 s11 s12 i wr => ∃ (k best : Nat) (least many : Int), k ≤ n ∧ i = .int .i64 k ∧ s10 = .int .i64 best ∧ s11 = .int .i64 least ∧ s12 = .int .i64 many ∧ Hid (mst (farI D ws edgesL) k = (best, least, many)) ∧ Ext w wr) (fun _ _ _ i _ => n - (intOf i).toNat)
  case atStart => exact ⟨0, 0, -1, 0, Nat.zero_le _, rfl, rfl, rfl, rfl, rfl, (by repeat (first | (with_reducible exact Ext.refl _) | (with_reducible refine Ext.drewN ?_ _) | (with_reducible refine Ext.drew ?_) | (with_reducible refine Ext.alloc ?_ _) | ((with_reducible refine Ext.setCell ?_ ?_ _); rotate_left; focus (first | (simp; done) | (simp; omega) | omega)) | assumption | (with_reducible refine Ext.trans ?_ (by assumption))))⟩
  case round =>
    obtain ⟨k, best, least, many, hk, rfl, rfl, rfl, rfl, HS, hx⟩ := hrel
    have hbd := HBd.out k hk
    rw [HS.out] at hbd
    simp only at hbd
    by_cases hlt : k < n
    · have HEi := Lib.hid (HE.out k hlt)
      have HSi := Lib.hid (HK.out.len k hlt)
      have HM1 := Lib.hid (HMp.out k hlt)
      have HMi := Lib.hid (HM.out k hlt)
      rw [HMF.out k hlt] at HMi
      
      have HN := Lib.hid (show mst (farI D ws edgesL) (k + 1) = mstep (best, least, many) k (farI D ws edgesL k) by rw [mst, HS.out])
      have HOe := Lib.hid (fun a c W h => spec_l08Edges a m c (elsL (gs D.pats k).data.toList) W h (fun x hx => by have := HK.out.els k hlt x hx; omega) (by omega))
      generalize farI D ws edgesL k = f at *
      unfold mstep at HN
      simp only at HN
      by_cases h1 : least < 0 ∨ f < least
      · by_cases h2 : least < 0
        · go_wp2_with (first | ((with_reducible refine (HEi.out _).mono ?_); rintro e w3 ⟨a3, c3', rfl, ho3, hy3⟩; rw [I_len, HSi.out] at ho3 ⊢; have hxw3 : Ext w w3 := Ext.trans (by repeat (first | (with_reducible exact Ext.refl _) | (with_reducible refine Ext.drewN ?_ _) | (with_reducible refine Ext.drew ?_) | (with_reducible refine Ext.alloc ?_ _) | ((with_reducible refine Ext.setCell ?_ ?_ _); rotate_left; focus (first | (simp; done) | (simp; omega) | omega)) | assumption | (with_reducible refine Ext.trans ?_ (by assumption)))) hy3; have HO3 := Lib.hid ho3; clear ho3 hy3) | ((with_reducible refine (HM1.out _ _ _ _ _ (HWi.out.ext (by repeat (first | (with_reducible exact Ext.refl _) | (with_reducible refine Ext.drewN ?_ _) | (with_reducible refine Ext.drew ?_) | (with_reducible refine Ext.alloc ?_ _) | ((with_reducible refine Ext.setCell ?_ ?_ _); rotate_left; focus (first | (simp; done) | (simp; omega) | omega)) | assumption | (with_reducible refine Ext.trans ?_ (by assumption))))) HO3.out.ints).mono ?_); rintro e w5 ⟨rfl, hy5⟩; have hxw5 : Ext w w5 := Ext.trans (by repeat (first | (with_reducible exact Ext.refl _) | (with_reducible refine Ext.drewN ?_ _) | (with_reducible refine Ext.drew ?_) | (with_reducible refine Ext.alloc ?_ _) | ((with_reducible refine Ext.setCell ?_ ?_ _); rotate_left; focus (first | (simp; done) | (simp; omega) | omega)) | assumption | (with_reducible refine Ext.trans ?_ (by assumption)))) hy5; have HO3b := Lib.hid (HO3.out.ints.ext hy5); clear hy5) | ((with_reducible refine (HOf.out _ (HWi.out.ext (by repeat (first | (with_reducible exact Ext.refl _) | (with_reducible refine Ext.drewN ?_ _) | (with_reducible refine Ext.drew ?_) | (with_reducible refine Ext.alloc ?_ _) | ((with_reducible refine Ext.setCell ?_ ?_ _); rotate_left; focus (first | (simp; done) | (simp; omega) | omega)) | assumption | (with_reducible refine Ext.trans ?_ (by assumption)))))).mono ?_); rintro e w6 ⟨a6, c6, rfl, ho6, hy6⟩; rw [I_len, edgesL_len, HWl.out] at ho6 ⊢; have hxw6 : Ext w w6 := Ext.trans (by repeat (first | (with_reducible exact Ext.refl _) | (with_reducible refine Ext.drewN ?_ _) | (with_reducible refine Ext.drew ?_) | (with_reducible refine Ext.alloc ?_ _) | ((with_reducible refine Ext.setCell ?_ ?_ _); rotate_left; focus (first | (simp; done) | (simp; omega) | omega)) | assumption | (with_reducible refine Ext.trans ?_ (by assumption)))) hy6; have HO6 := Lib.hid ho6; have HO3c := Lib.hid (HO3b.out.ext hy6); clear ho6 hy6) | ((with_reducible refine (HOe.out _ _ _ HO3c.out).mono ?_); rintro e w7 ⟨a7, c7, rfl, ho7, hy7⟩; rw [I_len, edgesL_len, HSi.out] at ho7 ⊢; have hxw7 : Ext w w7 := Ext.trans (by repeat (first | (with_reducible exact Ext.refl _) | (with_reducible refine Ext.drewN ?_ _) | (with_reducible refine Ext.drew ?_) | (with_reducible refine Ext.alloc ?_ _) | ((with_reducible refine Ext.setCell ?_ ?_ _); rotate_left; focus (first | (simp; done) | (simp; omega) | omega)) | assumption | (with_reducible refine Ext.trans ?_ (by assumption)))) hy7; have HO7 := Lib.hid ho7; have HO6b := Lib.hid (HO6.out.ints.ext hy7); clear ho7 hy7) | ((with_reducible refine (HMi.out _ _ _ _ _ HO6b.out HO7.out.ints).mono ?_); rintro e w8 ⟨rfl, hy8⟩; have hxw8 : Ext w w8 := Ext.trans (by repeat (first | (with_reducible exact Ext.refl _) | (with_reducible refine Ext.drewN ?_ _) | (with_reducible refine Ext.drew ?_) | (with_reducible refine Ext.alloc ?_ _) | ((with_reducible refine Ext.setCell ?_ ?_ _); rotate_left; focus (first | (simp; done) | (simp; omega) | omega)) | assumption | (with_reducible refine Ext.trans ?_ (by assumption)))) hy8; clear hy8))
          all_goals exact ⟨⟨k + 1, k, f, 1, by omega, by go_num, rfl, rfl, rfl, by rw [Hid, HN.out, if_pos (by omega)], (by repeat (first | (with_reducible exact Ext.refl _) | (with_reducible refine Ext.drewN ?_ _) | (with_reducible refine Ext.drew ?_) | (with_reducible refine Ext.alloc ?_ _) | ((with_reducible refine Ext.setCell ?_ ?_ _); rotate_left; focus (first | (simp; done) | (simp; omega) | omega)) | assumption | (with_reducible refine Ext.trans ?_ (by assumption))))⟩, by simp [intOf]; omega⟩
        · have h3 : f < least := by omega
          go_wp2_with (first | ((with_reducible refine (HEi.out _).mono ?_); rintro e w3 ⟨a3, c3', rfl, ho3, hy3⟩; rw [I_len, HSi.out] at ho3 ⊢; have hxw3 : Ext w w3 := Ext.trans (by repeat (first | (with_reducible exact Ext.refl _) | (with_reducible refine Ext.drewN ?_ _) | (with_reducible refine Ext.drew ?_) | (with_reducible refine Ext.alloc ?_ _) | ((with_reducible refine Ext.setCell ?_ ?_ _); rotate_left; focus (first | (simp; done) | (simp; omega) | omega)) | assumption | (with_reducible refine Ext.trans ?_ (by assumption)))) hy3; have HO3 := Lib.hid ho3; clear ho3 hy3) | ((with_reducible refine (HM1.out _ _ _ _ _ (HWi.out.ext (by repeat (first | (with_reducible exact Ext.refl _) | (with_reducible refine Ext.drewN ?_ _) | (with_reducible refine Ext.drew ?_) | (with_reducible refine Ext.alloc ?_ _) | ((with_reducible refine Ext.setCell ?_ ?_ _); rotate_left; focus (first | (simp; done) | (simp; omega) | omega)) | assumption | (with_reducible refine Ext.trans ?_ (by assumption))))) HO3.out.ints).mono ?_); rintro e w5 ⟨rfl, hy5⟩; have hxw5 : Ext w w5 := Ext.trans (by repeat (first | (with_reducible exact Ext.refl _) | (with_reducible refine Ext.drewN ?_ _) | (with_reducible refine Ext.drew ?_) | (with_reducible refine Ext.alloc ?_ _) | ((with_reducible refine Ext.setCell ?_ ?_ _); rotate_left; focus (first | (simp; done) | (simp; omega) | omega)) | assumption | (with_reducible refine Ext.trans ?_ (by assumption)))) hy5; have HO3b := Lib.hid (HO3.out.ints.ext hy5); clear hy5) | ((with_reducible refine (HOf.out _ (HWi.out.ext (by repeat (first | (with_reducible exact Ext.refl _) | (with_reducible refine Ext.drewN ?_ _) | (with_reducible refine Ext.drew ?_) | (with_reducible refine Ext.alloc ?_ _) | ((with_reducible refine Ext.setCell ?_ ?_ _); rotate_left; focus (first | (simp; done) | (simp; omega) | omega)) | assumption | (with_reducible refine Ext.trans ?_ (by assumption)))))).mono ?_); rintro e w6 ⟨a6, c6, rfl, ho6, hy6⟩; rw [I_len, edgesL_len, HWl.out] at ho6 ⊢; have hxw6 : Ext w w6 := Ext.trans (by repeat (first | (with_reducible exact Ext.refl _) | (with_reducible refine Ext.drewN ?_ _) | (with_reducible refine Ext.drew ?_) | (with_reducible refine Ext.alloc ?_ _) | ((with_reducible refine Ext.setCell ?_ ?_ _); rotate_left; focus (first | (simp; done) | (simp; omega) | omega)) | assumption | (with_reducible refine Ext.trans ?_ (by assumption)))) hy6; have HO6 := Lib.hid ho6; have HO3c := Lib.hid (HO3b.out.ext hy6); clear ho6 hy6) | ((with_reducible refine (HOe.out _ _ _ HO3c.out).mono ?_); rintro e w7 ⟨a7, c7, rfl, ho7, hy7⟩; rw [I_len, edgesL_len, HSi.out] at ho7 ⊢; have hxw7 : Ext w w7 := Ext.trans (by repeat (first | (with_reducible exact Ext.refl _) | (with_reducible refine Ext.drewN ?_ _) | (with_reducible refine Ext.drew ?_) | (with_reducible refine Ext.alloc ?_ _) | ((with_reducible refine Ext.setCell ?_ ?_ _); rotate_left; focus (first | (simp; done) | (simp; omega) | omega)) | assumption | (with_reducible refine Ext.trans ?_ (by assumption)))) hy7; have HO7 := Lib.hid ho7; have HO6b := Lib.hid (HO6.out.ints.ext hy7); clear ho7 hy7) | ((with_reducible refine (HMi.out _ _ _ _ _ HO6b.out HO7.out.ints).mono ?_); rintro e w8 ⟨rfl, hy8⟩; have hxw8 : Ext w w8 := Ext.trans (by repeat (first | (with_reducible exact Ext.refl _) | (with_reducible refine Ext.drewN ?_ _) | (with_reducible refine Ext.drew ?_) | (with_reducible refine Ext.alloc ?_ _) | ((with_reducible refine Ext.setCell ?_ ?_ _); rotate_left; focus (first | (simp; done) | (simp; omega) | omega)) | assumption | (with_reducible refine Ext.trans ?_ (by assumption)))) hy8; clear hy8))
          all_goals exact ⟨⟨k + 1, k, f, 1, by omega, by go_num, rfl, rfl, rfl, by rw [Hid, HN.out, if_pos (by omega)], (by repeat (first | (with_reducible exact Ext.refl _) | (with_reducible refine Ext.drewN ?_ _) | (with_reducible refine Ext.drew ?_) | (with_reducible refine Ext.alloc ?_ _) | ((with_reducible refine Ext.setCell ?_ ?_ _); rotate_left; focus (first | (simp; done) | (simp; omega) | omega)) | assumption | (with_reducible refine Ext.trans ?_ (by assumption))))⟩, by simp [intOf]; omega⟩
      · have h2 : ¬ least < 0 := by omega
        have h3 : ¬ f < least := by omega
        by_cases h4 : f = least
        · have hb : (f == least) = true := by simpa using h4
          have Hh4 := Lib.hid h4; clear h4; have Hh1 := Lib.hid h1; clear h1
          go_wp2_with (first | ((with_reducible refine (HEi.out _).mono ?_); rintro e w3 ⟨a3, c3', rfl, ho3, hy3⟩; rw [I_len, HSi.out] at ho3 ⊢; have hxw3 : Ext w w3 := Ext.trans (by repeat (first | (with_reducible exact Ext.refl _) | (with_reducible refine Ext.drewN ?_ _) | (with_reducible refine Ext.drew ?_) | (with_reducible refine Ext.alloc ?_ _) | ((with_reducible refine Ext.setCell ?_ ?_ _); rotate_left; focus (first | (simp; done) | (simp; omega) | omega)) | assumption | (with_reducible refine Ext.trans ?_ (by assumption)))) hy3; have HO3 := Lib.hid ho3; clear ho3 hy3) | ((with_reducible refine (HM1.out _ _ _ _ _ (HWi.out.ext (by repeat (first | (with_reducible exact Ext.refl _) | (with_reducible refine Ext.drewN ?_ _) | (with_reducible refine Ext.drew ?_) | (with_reducible refine Ext.alloc ?_ _) | ((with_reducible refine Ext.setCell ?_ ?_ _); rotate_left; focus (first | (simp; done) | (simp; omega) | omega)) | assumption | (with_reducible refine Ext.trans ?_ (by assumption))))) HO3.out.ints).mono ?_); rintro e w5 ⟨rfl, hy5⟩; have hxw5 : Ext w w5 := Ext.trans (by repeat (first | (with_reducible exact Ext.refl _) | (with_reducible refine Ext.drewN ?_ _) | (with_reducible refine Ext.drew ?_) | (with_reducible refine Ext.alloc ?_ _) | ((with_reducible refine Ext.setCell ?_ ?_ _); rotate_left; focus (first | (simp; done) | (simp; omega) | omega)) | assumption | (with_reducible refine Ext.trans ?_ (by assumption)))) hy5; have HO3b := Lib.hid (HO3.out.ints.ext hy5); clear hy5) | ((with_reducible refine (HOf.out _ (HWi.out.ext (by repeat (first | (with_reducible exact Ext.refl _) | (with_reducible refine Ext.drewN ?_ _) | (with_reducible refine Ext.drew ?_) | (with_reducible refine Ext.alloc ?_ _) | ((with_reducible refine Ext.setCell ?_ ?_ _); rotate_left; focus (first | (simp; done) | (simp; omega) | omega)) | assumption | (with_reducible refine Ext.trans ?_ (by assumption)))))).mono ?_); rintro e w6 ⟨a6, c6, rfl, ho6, hy6⟩; rw [I_len, edgesL_len, HWl.out] at ho6 ⊢; have hxw6 : Ext w w6 := Ext.trans (by repeat (first | (with_reducible exact Ext.refl _) | (with_reducible refine Ext.drewN ?_ _) | (with_reducible refine Ext.drew ?_) | (with_reducible refine Ext.alloc ?_ _) | ((with_reducible refine Ext.setCell ?_ ?_ _); rotate_left; focus (first | (simp; done) | (simp; omega) | omega)) | assumption | (with_reducible refine Ext.trans ?_ (by assumption)))) hy6; have HO6 := Lib.hid ho6; have HO3c := Lib.hid (HO3b.out.ext hy6); clear ho6 hy6) | ((with_reducible refine (HOe.out _ _ _ HO3c.out).mono ?_); rintro e w7 ⟨a7, c7, rfl, ho7, hy7⟩; rw [I_len, edgesL_len, HSi.out] at ho7 ⊢; have hxw7 : Ext w w7 := Ext.trans (by repeat (first | (with_reducible exact Ext.refl _) | (with_reducible refine Ext.drewN ?_ _) | (with_reducible refine Ext.drew ?_) | (with_reducible refine Ext.alloc ?_ _) | ((with_reducible refine Ext.setCell ?_ ?_ _); rotate_left; focus (first | (simp; done) | (simp; omega) | omega)) | assumption | (with_reducible refine Ext.trans ?_ (by assumption)))) hy7; have HO7 := Lib.hid ho7; have HO6b := Lib.hid (HO6.out.ints.ext hy7); clear ho7 hy7) | ((with_reducible refine (HMi.out _ _ _ _ _ HO6b.out HO7.out.ints).mono ?_); rintro e w8 ⟨rfl, hy8⟩; have hxw8 : Ext w w8 := Ext.trans (by repeat (first | (with_reducible exact Ext.refl _) | (with_reducible refine Ext.drewN ?_ _) | (with_reducible refine Ext.drew ?_) | (with_reducible refine Ext.alloc ?_ _) | ((with_reducible refine Ext.setCell ?_ ?_ _); rotate_left; focus (first | (simp; done) | (simp; omega) | omega)) | assumption | (with_reducible refine Ext.trans ?_ (by assumption)))) hy8; clear hy8))
          all_goals exact ⟨⟨k + 1, best, least, many + 1, by omega, by go_num, rfl, rfl, rfl, by rw [Hid, HN.out, if_neg (by omega), if_pos Hh4.out], (by repeat (first | (with_reducible exact Ext.refl _) | (with_reducible refine Ext.drewN ?_ _) | (with_reducible refine Ext.drew ?_) | (with_reducible refine Ext.alloc ?_ _) | ((with_reducible refine Ext.setCell ?_ ?_ _); rotate_left; focus (first | (simp; done) | (simp; omega) | omega)) | assumption | (with_reducible refine Ext.trans ?_ (by assumption))))⟩, by simp [intOf]; omega⟩
        · have hb : (f == least) = false := by simpa using h4
          have Hh4 := Lib.hid h4; clear h4; have Hh1 := Lib.hid h1; clear h1
          go_wp2_with (first | ((with_reducible refine (HEi.out _).mono ?_); rintro e w3 ⟨a3, c3', rfl, ho3, hy3⟩; rw [I_len, HSi.out] at ho3 ⊢; have hxw3 : Ext w w3 := Ext.trans (by repeat (first | (with_reducible exact Ext.refl _) | (with_reducible refine Ext.drewN ?_ _) | (with_reducible refine Ext.drew ?_) | (with_reducible refine Ext.alloc ?_ _) | ((with_reducible refine Ext.setCell ?_ ?_ _); rotate_left; focus (first | (simp; done) | (simp; omega) | omega)) | assumption | (with_reducible refine Ext.trans ?_ (by assumption)))) hy3; have HO3 := Lib.hid ho3; clear ho3 hy3) | ((with_reducible refine (HM1.out _ _ _ _ _ (HWi.out.ext (by repeat (first | (with_reducible exact Ext.refl _) | (with_reducible refine Ext.drewN ?_ _) | (with_reducible refine Ext.drew ?_) | (with_reducible refine Ext.alloc ?_ _) | ((with_reducible refine Ext.setCell ?_ ?_ _); rotate_left; focus (first | (simp; done) | (simp; omega) | omega)) | assumption | (with_reducible refine Ext.trans ?_ (by assumption))))) HO3.out.ints).mono ?_); rintro e w5 ⟨rfl, hy5⟩; have hxw5 : Ext w w5 := Ext.trans (by repeat (first | (with_reducible exact Ext.refl _) | (with_reducible refine Ext.drewN ?_ _) | (with_reducible refine Ext.drew ?_) | (with_reducible refine Ext.alloc ?_ _) | ((with_reducible refine Ext.setCell ?_ ?_ _); rotate_left; focus (first | (simp; done) | (simp; omega) | omega)) | assumption | (with_reducible refine Ext.trans ?_ (by assumption)))) hy5; have HO3b := Lib.hid (HO3.out.ints.ext hy5); clear hy5) | ((with_reducible refine (HOf.out _ (HWi.out.ext (by repeat (first | (with_reducible exact Ext.refl _) | (with_reducible refine Ext.drewN ?_ _) | (with_reducible refine Ext.drew ?_) | (with_reducible refine Ext.alloc ?_ _) | ((with_reducible refine Ext.setCell ?_ ?_ _); rotate_left; focus (first | (simp; done) | (simp; omega) | omega)) | assumption | (with_reducible refine Ext.trans ?_ (by assumption)))))).mono ?_); rintro e w6 ⟨a6, c6, rfl, ho6, hy6⟩; rw [I_len, edgesL_len, HWl.out] at ho6 ⊢; have hxw6 : Ext w w6 := Ext.trans (by repeat (first | (with_reducible exact Ext.refl _) | (with_reducible refine Ext.drewN ?_ _) | (with_reducible refine Ext.drew ?_) | (with_reducible refine Ext.alloc ?_ _) | ((with_reducible refine Ext.setCell ?_ ?_ _); rotate_left; focus (first | (simp; done) | (simp; omega) | omega)) | assumption | (with_reducible refine Ext.trans ?_ (by assumption)))) hy6; have HO6 := Lib.hid ho6; have HO3c := Lib.hid (HO3b.out.ext hy6); clear ho6 hy6) | ((with_reducible refine (HOe.out _ _ _ HO3c.out).mono ?_); rintro e w7 ⟨a7, c7, rfl, ho7, hy7⟩; rw [I_len, edgesL_len, HSi.out] at ho7 ⊢; have hxw7 : Ext w w7 := Ext.trans (by repeat (first | (with_reducible exact Ext.refl _) | (with_reducible refine Ext.drewN ?_ _) | (with_reducible refine Ext.drew ?_) | (with_reducible refine Ext.alloc ?_ _) | ((with_reducible refine Ext.setCell ?_ ?_ _); rotate_left; focus (first | (simp; done) | (simp; omega) | omega)) | assumption | (with_reducible refine Ext.trans ?_ (by assumption)))) hy7; have HO7 := Lib.hid ho7; have HO6b := Lib.hid (HO6.out.ints.ext hy7); clear ho7 hy7) | ((with_reducible refine (HMi.out _ _ _ _ _ HO6b.out HO7.out.ints).mono ?_); rintro e w8 ⟨rfl, hy8⟩; have hxw8 : Ext w w8 := Ext.trans (by repeat (first | (with_reducible exact Ext.refl _) | (with_reducible refine Ext.drewN ?_ _) | (with_reducible refine Ext.drew ?_) | (with_reducible refine Ext.alloc ?_ _) | ((with_reducible refine Ext.setCell ?_ ?_ _); rotate_left; focus (first | (simp; done) | (simp; omega) | omega)) | assumption | (with_reducible refine Ext.trans ?_ (by assumption)))) hy8; clear hy8))
          all_goals exact ⟨⟨k + 1, best, least, many, by omega, by go_num, rfl, rfl, rfl, by rw [Hid, HN.out, if_neg (by omega), if_neg Hh4.out], (by repeat (first | (with_reducible exact Ext.refl _) | (with_reducible refine Ext.drewN ?_ _) | (with_reducible refine Ext.drew ?_) | (with_reducible refine Ext.alloc ?_ _) | ((with_reducible refine Ext.setCell ?_ ?_ _); rotate_left; focus (first | (simp; done) | (simp; omega) | omega)) | assumption | (with_reducible refine Ext.trans ?_ (by assumption))))⟩, by simp [intOf]; omega⟩
    · obtain rfl : k = n := by omega
      go_wp2
      go_ret2
      exact ⟨by rw [HSt.out, HS.out]; rfl, (by repeat (first | (with_reducible exact Ext.refl _) | (with_reducible refine Ext.drewN ?_ _) | (with_reducible refine Ext.drew ?_) | (with_reducible refine Ext.alloc ?_ _) | ((with_reducible refine Ext.setCell ?_ ?_ _); rotate_left; focus (first | (simp; done) | (simp; omega) | omega)) | assumption | (with_reducible refine Ext.trans ?_ (by assumption))))⟩
set_option maxHeartbeats 1000000 in
theorem spec_MeasureEdges (D : Bc) (a : Option Addr) (n c : Nat) (b : Option Addr) (m d : Nat) (ws : List Int) (w : World) (hv : Strs w a n c D.pats) (hn : n ≤ 1048576) (hs : D.start.size ≤ 1048576) (ht : D.stop.size ≤ 1048576) (hp : ∀ p ∈ D.pats, p.size ≤ 1048576) (hw : Ints w b m d ws) (hm : m ≤ 1048576) :
    Calls Try.prog 29 #[.agg #[.string D.start, .string D.stop, .slice a n c, .int .i64 D.gap], .slice b m d] w (Ret2 (.int .i64 (measRes D ws edgesL)) (.bool (measOkB D ws edgesL)) w) := by
  have HL := Lib.hid hv.len
  have HWl := Lib.hid hw.len
  have HW := Lib.hid hw
  have HB := Lib.hid (bc_box w D a n c 28 hv)
  have HWo := Lib.hid (fun W h h' => spec_l08Widths D w.heap.size a b n c m d ws W h hn hs ht hp h' hm)
  clear hv hw
  cases hvw : validBc D && widthsB D ws
  · rw [hvw] at HWo
    have HO := Lib.hid (show measOkB D ws edgesL = false ∧ measRes D ws edgesL = 0 by
      have e : measOkB D ws edgesL = false := by rw [measOkB, ← Bool.and_assoc, hvw]; rfl
      exact ⟨e, by rw [measRes, e]; rfl⟩)
    clear hvw
    go_enter Try.func29, Try.ntmps29
    go_wp2_with ((with_reducible refine (HWo.out _ HB.out (HW.out.ext (by repeat (first | (with_reducible exact Ext.refl _) | (with_reducible refine Ext.drewN ?_ _) | (with_reducible refine Ext.drew ?_) | (with_reducible refine Ext.alloc ?_ _) | ((with_reducible refine Ext.setCell ?_ ?_ _); rotate_left; focus (first | (simp; done) | (simp; omega) | omega)) | assumption | (with_reducible refine Ext.trans ?_ (by assumption)))))).mono ?_); rintro e w2 ⟨rfl, hx2⟩)
    go_ret2
    exact ret2_mk HO.out.2 HO.out.1 (by repeat (first | (with_reducible exact Ext.refl _) | (with_reducible refine Ext.drewN ?_ _) | (with_reducible refine Ext.drew ?_) | (with_reducible refine Ext.alloc ?_ _) | ((with_reducible refine Ext.setCell ?_ ?_ _); rotate_left; focus (first | (simp; done) | (simp; omega) | omega)) | assumption | (with_reducible refine Ext.trans ?_ (by assumption))))
  rw [hvw] at HWo
  have hvw2 := hvw
  simp only [Bool.and_eq_true] at hvw2
  obtain ⟨hval, hwb⟩ := hvw2
  have hok := validBc_ok hval
  have hwt := widthsB_t hwb
  have HM := Lib.hid (fun W h h' => spec_measure_ed D w.heap.size a b n c m d ws W h h' (measOk hok HL.out HWl.out hwt.1 hwt.2))
  have HY := Lib.hid (fun h => meas_yes (of := edgesL) hval hwb h)
  have HN := Lib.hid (fun h => meas_no3 (D := D) (ws := ws) (of := edgesL) h)
  clear hval hwb hok hwt hvw
  generalize measS D ws edgesL = ms at *
  obtain ⟨ms1, ms2, ms3⟩ := ms
  simp only at HM HY HN
  go_enter Try.func29, Try.ntmps29
  go_wp2_with (first | ((with_reducible refine (HWo.out _ HB.out (HW.out.ext (by repeat (first | (with_reducible exact Ext.refl _) | (with_reducible refine Ext.drewN ?_ _) | (with_reducible refine Ext.drew ?_) | (with_reducible refine Ext.alloc ?_ _) | ((with_reducible refine Ext.setCell ?_ ?_ _); rotate_left; focus (first | (simp; done) | (simp; omega) | omega)) | assumption | (with_reducible refine Ext.trans ?_ (by assumption)))))).mono ?_); rintro e w2 ⟨rfl, hx2⟩) | ((with_reducible refine (HM.out _ (HB.out.ext hx2) (HW.out.ext (by repeat (first | (with_reducible exact Ext.refl _) | (with_reducible refine Ext.drewN ?_ _) | (with_reducible refine Ext.drew ?_) | (with_reducible refine Ext.alloc ?_ _) | ((with_reducible refine Ext.setCell ?_ ?_ _); rotate_left; focus (first | (simp; done) | (simp; omega) | omega)) | assumption | (with_reducible refine Ext.trans ?_ (by assumption)))))).mono ?_); rintro e w3 ⟨rfl, hx3⟩))
  · have h := HN.out (by simpa using ‹(!(ms3 == 1)) = true›)
    go_ret2
    exact ret2_mk h.2 h.1 (by repeat (first | (with_reducible exact Ext.refl _) | (with_reducible refine Ext.drewN ?_ _) | (with_reducible refine Ext.drew ?_) | (with_reducible refine Ext.alloc ?_ _) | ((with_reducible refine Ext.setCell ?_ ?_ _); rotate_left; focus (first | (simp; done) | (simp; omega) | omega)) | assumption | (with_reducible refine Ext.trans ?_ (by assumption))))
  · have h := HY.out (by simpa using ‹(!(ms3 == 1)) = false›)
    go_ret2
    exact ret2_mk h.2 h.1 (by repeat (first | (with_reducible exact Ext.refl _) | (with_reducible refine Ext.drewN ?_ _) | (with_reducible refine Ext.drew ?_) | (with_reducible refine Ext.alloc ?_ _) | ((with_reducible refine Ext.setCell ?_ ?_ _); rotate_left; focus (first | (simp; done) | (simp; omega) | omega)) | assumption | (with_reducible refine Ext.trans ?_ (by assumption))))
end Go.Proofs.Ytnmkckghfckgbaa
