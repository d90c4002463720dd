/- Walks: the laws' helpers on desks. -/
import Derived.Test.YtlpbflmgkopklaaDesk
namespace Go.Proofs.Ytlpbflmgkopklaa
set_option maxRecDepth 100000
open Go.RowKit

/-- what is left of a bound, or a number below 0; what is left bounds all -/
def SzPost (left : Int) (ok : Prop) (w : World) (e : Ending) (w' : World) : Prop := ∃ x : Int, e = .returned (.int .i64 x) ∧ (x = -1 ∨ (0 ≤ x ∧ x ≤ left ∧ ok)) ∧ Ext w w'
set_option maxHeartbeats 1000000 in
theorem szWts (a : Option Addr) (n c : Nat) (L : List Wt) (left : Int) (w : World) (hv : Wts w a n c L) (hn : n ≤ 9223372036854775807) (hm : ∀ k, k < n → (gw L k).weights.length ≤ 9223372036854775807) (h0 : 0 ≤ left) (h1 : left ≤ 1048576) :
    Calls Try.prog 66 #[.slice a n c, .int .i64 left] w (SzPost left ((n : Int) ≤ left ∧ ∀ k, k < n → ((gw L k).weights.length : Int) ≤ left) w) := by
  have HV := Lib.hid hv
  have HM := Lib.hid hm
  clear hv hm
  by_cases hs : left < n
  · go_enter Try.func66, Try.ntmps66
    go_wp2
    go_ret
    exact ⟨-1, rfl, .inl rfl, (by repeat (first | (with_reducible exact Ext.refl _) | (with_reducible refine Ext.drewN ?_ _) | (with_reducible refine Ext.drew ?_) | (with_reducible refine Ext.alloc ?_ _) | ((with_reducible refine Ext.setCell ?_ ?_ _); rotate_left; focus (first | (simp; done) | (simp; omega) | omega)) | assumption | (with_reducible refine Ext.trans ?_ (by assumption))))⟩
  go_enter Try.func66, Try.ntmps66
  go_wp2
  go_loopw [1, 5] (fun v i wr => ∃ (k : Nat) (x : Int), k ≤ n ∧ i = .int .i64 k ∧ v = .int .i64 x ∧ 0 ≤ x ∧ x ≤ left ∧ (∀ j, j < k → ((gw L j).weights.length : Int) ≤ left) ∧ Ext w wr) (fun _ i _ => n - (intOf i).toNat)
  case atStart => exact ⟨0, left - n, Nat.zero_le _, rfl, rfl, by omega, by omega, (fun j hj => by omega), (by repeat (first | (with_reducible exact Ext.refl _) | (with_reducible refine Ext.drewN ?_ _) | (with_reducible refine Ext.drew ?_) | (with_reducible refine Ext.alloc ?_ _) | ((with_reducible refine Ext.setCell ?_ ?_ _); rotate_left; focus (first | (simp; done) | (simp; omega) | omega)) | assumption | (with_reducible refine Ext.trans ?_ (by assumption))))⟩
  case round =>
    obtain ⟨k, x, hk, rfl, rfl, hx0, hxl, hp, hx⟩ := hrel
    have Hhp := Lib.hid hp; clear hp
    by_cases hlt : k < n
    · obtain ⟨b, o, a1, n1, c1, hix, w0, w1, w2, w3, hwt⟩ := (HV.out.ext hx).ix (P := Try.prog) 45 56 und_lwts cell_lwt k hlt .i64
      have hn1 := hwt.ws.len
      have hm1 := HM.out k hlt
      have HS := Lib.hid (szWt (.int .i64 (gw L k).base) (.int .i64 (gw L k).modulus) (.int .i64 (gw L k).target) rfl rfl rfl a1 n1 c1 x wr (by omega) hx0 (by omega))
      have hxr : Ext w wr := hx
      have hrr : Ext wr wr := Ext.refl wr
      have HP := Lib.hid (show (n1 : Int) ≤ left → ∀ j, j < k + 1 → ((gw L j).weights.length : Int) ≤ left from fun h j hj => by
        by_cases e : j < k
        · exact Hhp.out j e
        · obtain rfl : j = k := by omega
          rw [hn1]; exact h)
      have Hhwt := Lib.hid hwt; clear hwt; have Hhn1 := Lib.hid hn1; clear hn1; have Hhm1 := Lib.hid hm1; clear hm1
      by_cases hl : x < n1
      · rw [if_pos hl] at HS
        go_wp2_with ((with_reducible refine HS.out.mono ?_); rintro e w4 ⟨rfl, hy4⟩)
        go_ret
        exact ⟨-1, rfl, .inl rfl, (by repeat (first | (with_reducible exact Ext.refl _) | (with_reducible refine Ext.drewN ?_ _) | (with_reducible refine Ext.drew ?_) | (with_reducible refine Ext.alloc ?_ _) | ((with_reducible refine Ext.setCell ?_ ?_ _); rotate_left; focus (first | (simp; done) | (simp; omega) | omega)) | assumption | (with_reducible refine Ext.trans ?_ (by assumption))))⟩
      · rw [if_neg hl] at HS
        go_wp2_with ((with_reducible refine HS.out.mono ?_); rintro e w4 ⟨rfl, hy4⟩)
        exact ⟨⟨k + 1, x - n1, by omega, by go_num, rfl, by omega, by omega, HP.out (by omega), (by repeat (first | (with_reducible exact Ext.refl _) | (with_reducible refine Ext.drewN ?_ _) | (with_reducible refine Ext.drew ?_) | (with_reducible refine Ext.alloc ?_ _) | ((with_reducible refine Ext.setCell ?_ ?_ _); rotate_left; focus (first | (simp; done) | (simp; omega) | omega)) | assumption | (with_reducible refine Ext.trans ?_ (by assumption))))⟩, by simp [intOf]; omega⟩
    · obtain rfl : k = n := by omega
      go_wp2
      go_ret
      exact ⟨x, rfl, .inr ⟨hx0, hxl, by omega, Hhp.out⟩, hx⟩
set_option maxHeartbeats 1000000 in
theorem eqWts (a a' : Option Addr) (n c c' : Nat) (L : List Wt) (w : World) (hv : Wts w a n c L) (hv' : Wts w a' n c' L) (hn : n ≤ 4194304) (hm : ∀ k, k < n → (gw L k).weights.length ≤ 4194304) :
    Calls Try.prog 72 #[.slice a n c, .slice a' n c'] w (Ret (.bool true) w) := by
  have HV := Lib.hid hv
  have HV' := Lib.hid hv'
  have HM := Lib.hid hm
  clear hv hm hv'
  go_enter Try.func72, Try.ntmps72
  go_wp2
  go_loopw [5] (fun i wr => ∃ k : Nat, k ≤ n ∧ i = .int .i64 k ∧ Ext w wr) (fun i _ => n - (intOf i).toNat)
  case atStart => exact ⟨0, Nat.zero_le _, rfl, (by repeat (first | (with_reducible exact Ext.refl _) | (with_reducible refine Ext.drewN ?_ _) | (with_reducible refine Ext.drew ?_) | (with_reducible refine Ext.alloc ?_ _) | ((with_reducible refine Ext.setCell ?_ ?_ _); rotate_left; focus (first | (simp; done) | (simp; omega) | omega)) | assumption | (with_reducible refine Ext.trans ?_ (by assumption))))⟩
  case round =>
    obtain ⟨k, hk, rfl, hx⟩ := hrel
    have hxr : Ext w wr := hx
    by_cases hlt : k < n
    · obtain ⟨b, o, a1, n1, c1, hix, w0, w1, w2, w3, hwt⟩ := (HV.out.ext hx).ix (P := Try.prog) 50 34 und_wts cell_wt k hlt .i64
      obtain ⟨b', o', a2, n2, c2, hix', w0', w1', w2', w3', hwt'⟩ := (HV'.out.ext hx).ix (P := Try.prog) 50 34 und_wts cell_wt k hlt .i64
      have hn1 := hwt.ws.len
      have hn2 := hwt'.ws.len
      have hm1 := HM.out k hlt
      obtain rfl : n2 = n1 := by omega
      have HE := Lib.hid (fun W (h : Ext wr W) => eqWt (gw L k) a1 a2 n2 c1 c2 W (hwt.ws.ext h) (hwt'.ws.ext h) (by omega))
      clear hwt hwt' hn1 hn2 hm1
      go_wp2
      (refine wp_region_from wr (by repeat (first | (with_reducible exact Ext.refl _) | (with_reducible refine Ext.drewN ?_ _) | (with_reducible refine Ext.drew ?_) | (with_reducible refine Ext.alloc ?_ _) | ((with_reducible refine Ext.setCell ?_ ?_ _); rotate_left; focus (first | (simp; done) | (simp; omega) | omega)) | assumption | (with_reducible refine Ext.trans ?_ (by assumption)))) (by kernel_rfl) (by kernel_rfl) (seqB_of (by kernel_rfl)) ?_; (repeat (first | (refine mix_q rfl ?_; go_big_quiet_step (fail); refine wpQuiet_nil ?_; show wpMix _ _ _ _ _ _ _) | (refine mix_s rfl ?_; go_wp2_with (((with_reducible refine (HE.out _ (by repeat (first | (with_reducible exact Ext.refl _) | (with_reducible refine Ext.drewN ?_ _) | (with_reducible refine Ext.drew ?_) | (with_reducible refine Ext.alloc ?_ _) | ((with_reducible refine Ext.setCell ?_ ?_ _); rotate_left; focus (first | (simp; done) | (simp; omega) | omega)) | assumption | (with_reducible refine Ext.trans ?_ (by assumption))))).mono ?_); rintro e w5 ⟨rfl, hy5⟩; have hxw5 : Ext wr w5 := Ext.trans (by repeat (first | (with_reducible exact Ext.refl _) | (with_reducible refine Ext.drewN ?_ _) | (with_reducible refine Ext.drew ?_) | (with_reducible refine Ext.alloc ?_ _) | ((with_reducible refine Ext.setCell ?_ ?_ _); rotate_left; focus (first | (simp; done) | (simp; omega) | omega)) | assumption | (with_reducible refine Ext.trans ?_ (by assumption)))) hy5; have hz5 := hy5; clear hy5)); first | refine ⟨up_of (by repeat (first | (with_reducible exact Ext.refl _) | (with_reducible refine Ext.drewN ?_ _) | (with_reducible refine Ext.drew ?_) | (with_reducible refine Ext.alloc ?_ _) | ((with_reducible refine Ext.setCell ?_ ?_ _); rotate_left; focus (first | (simp; done) | (simp; omega) | omega)) | assumption | (with_reducible refine Ext.trans ?_ (by assumption)))), ?_⟩ | refine ⟨rfl, rfl, up_of (by repeat (first | (with_reducible exact Ext.refl _) | (with_reducible refine Ext.drewN ?_ _) | (with_reducible refine Ext.drew ?_) | (with_reducible refine Ext.alloc ?_ _) | ((with_reducible refine Ext.setCell ?_ ?_ _); rotate_left; focus (first | (simp; done) | (simp; omega) | omega)) | assumption | (with_reducible refine Ext.trans ?_ (by assumption)))), ?_⟩))); refine mix_nil ?_)
      go_wp2
      exact ⟨⟨k + 1, by omega, by go_num, (by repeat (first | (with_reducible exact Ext.refl _) | (with_reducible refine Ext.drewN ?_ _) | (with_reducible refine Ext.drew ?_) | (with_reducible refine Ext.alloc ?_ _) | ((with_reducible refine Ext.setCell ?_ ?_ _); rotate_left; focus (first | (simp; done) | (simp; omega) | omega)) | assumption | (with_reducible refine Ext.trans ?_ (by assumption))))⟩, by simp [intOf]; omega⟩
    · obtain rfl : k = n := by omega
      go_wp2
      go_ret
      exact ⟨rfl, hx⟩
/-- a desk of a law -/
structure RawDk (w : World) (D : Dk) (a : Option Addr) (n c : Nat) (b : Option Addr) (m d : Nat) : Prop where
  dk : DkIn w D a n c b m d
  hn : n ≤ 9223372036854775807
  hm : m ≤ 9223372036854775807
  sz : ∀ k, k < m → (gw D.sys k).weights.length ≤ 9223372036854775807
theorem RawDk.ext {w w' : World} {D : Dk} {a : Option Addr} {n c : Nat} {b : Option Addr} {m d : Nat} (h : RawDk w D a n c b m d) (hx : Ext w w') : RawDk w' D a n c b m d := ⟨h.dk.ext hx, h.hn, h.hm, h.sz⟩
/-- a desk that is small enough -/
def SmDk (D : Dk) (n m : Nat) : Prop := n ≤ 1048576 ∧ m ≤ 1048576 ∧ ∀ k, k < m → (gw D.sys k).weights.length ≤ 1048576
set_option maxHeartbeats 1000000 in
theorem szDk (D : Dk) (a : Option Addr) (n c : Nat) (b : Option Addr) (m d : Nat) (w : World) (hv : RawDk w D a n c b m d) :
    Calls Try.prog 27 #[.agg #[.slice a n c, .slice b m d], .int .i64 1048576] w (SzPost 1048576 (SmDk D n m) w) := by
  have HS := Lib.hid (fun W (h : Ext w W) => szStrs a n c D.names 1048576 W (hv.dk.ns.ext h) hv.hn hv.dk.sz (by omega) (by omega))
  have HW := Lib.hid (fun left W (h : Ext w W) h0 h1 => szWts b m d D.sys left W (hv.dk.ws.ext h) hv.hm hv.sz h0 h1)
  clear hv
  by_cases hl : (1048576 : Int) < ((n + sizeS D.names : Nat) : Int)
  · have HL := Lib.hid (show leftOf 1048576 (n + sizeS D.names) = -1 by unfold leftOf; rw [if_pos hl])
    rw [HL.out] at HS
    go_enter Try.func27, Try.ntmps27
    go_wp2_with ((with_reducible refine (HS.out _ (by repeat (first | (with_reducible exact Ext.refl _) | (with_reducible refine Ext.drewN ?_ _) | (with_reducible refine Ext.drew ?_) | (with_reducible refine Ext.alloc ?_ _) | ((with_reducible refine Ext.setCell ?_ ?_ _); rotate_left; focus (first | (simp; done) | (simp; omega) | omega)) | assumption | (with_reducible refine Ext.trans ?_ (by assumption))))).mono ?_); rintro e w1 ⟨rfl, rfl⟩)
    go_ret
    exact ⟨-1, rfl, .inl rfl, (by repeat (first | (with_reducible exact Ext.refl _) | (with_reducible refine Ext.drewN ?_ _) | (with_reducible refine Ext.drew ?_) | (with_reducible refine Ext.alloc ?_ _) | ((with_reducible refine Ext.setCell ?_ ?_ _); rotate_left; focus (first | (simp; done) | (simp; omega) | omega)) | assumption | (with_reducible refine Ext.trans ?_ (by assumption))))⟩
  · obtain ⟨L, hL⟩ : ∃ L, L = leftOf 1048576 (n + sizeS D.names) := ⟨_, rfl⟩
    have hL2 : L = 1048576 - ((n + sizeS D.names : Nat) : Int) := by rw [hL]; unfold leftOf; rw [if_neg hl]
    have hL0 : 0 ≤ L := by omega
    have hL1 : L ≤ 1048576 := by omega
    have hn : n ≤ 1048576 := by omega
    rw [← hL] at HS
    clear hL hL2 hl
    go_enter Try.func27, Try.ntmps27
    go_wp2_with (first | ((with_reducible refine (HS.out _ (by repeat (first | (with_reducible exact Ext.refl _) | (with_reducible refine Ext.drewN ?_ _) | (with_reducible refine Ext.drew ?_) | (with_reducible refine Ext.alloc ?_ _) | ((with_reducible refine Ext.setCell ?_ ?_ _); rotate_left; focus (first | (simp; done) | (simp; omega) | omega)) | assumption | (with_reducible refine Ext.trans ?_ (by assumption))))).mono ?_); rintro e w1 ⟨rfl, rfl⟩) | ((with_reducible refine (HW.out _ _ (by repeat (first | (with_reducible exact Ext.refl _) | (with_reducible refine Ext.drewN ?_ _) | (with_reducible refine Ext.drew ?_) | (with_reducible refine Ext.alloc ?_ _) | ((with_reducible refine Ext.setCell ?_ ?_ _); rotate_left; focus (first | (simp; done) | (simp; omega) | omega)) | assumption | (with_reducible refine Ext.trans ?_ (by assumption)))) (by omega) (by omega)).mono ?_); rintro e w2 ⟨x, rfl, hx2, hy2⟩))
    · go_ret
      exact ⟨-1, rfl, .inl rfl, (by repeat (first | (with_reducible exact Ext.refl _) | (with_reducible refine Ext.drewN ?_ _) | (with_reducible refine Ext.drew ?_) | (with_reducible refine Ext.alloc ?_ _) | ((with_reducible refine Ext.setCell ?_ ?_ _); rotate_left; focus (first | (simp; done) | (simp; omega) | omega)) | assumption | (with_reducible refine Ext.trans ?_ (by assumption))))⟩
    · have hx0 : 0 ≤ x := by assumption
      go_ret
      rcases hx2 with h | ⟨g0, g1, g2, g3⟩
      · omega
      · exact ⟨x, rfl, .inr ⟨g0, by omega, hn, by omega, fun k hk => by have := g3 k hk; omega⟩, (by repeat (first | (with_reducible exact Ext.refl _) | (with_reducible refine Ext.drewN ?_ _) | (with_reducible refine Ext.drew ?_) | (with_reducible refine Ext.alloc ?_ _) | ((with_reducible refine Ext.setCell ?_ ?_ _); rotate_left; focus (first | (simp; done) | (simp; omega) | omega)) | assumption | (with_reducible refine Ext.trans ?_ (by assumption))))⟩
theorem heap3 (w : World) (o1 o2 o3 : Obj) : (((w.alloc o1).alloc o2).alloc o3).heap[w.heap.size]? = some o1 ∧ (((w.alloc o1).alloc o2).alloc o3).heap[w.heap.size + 1]? = some o2 ∧ (((w.alloc o1).alloc o2).alloc o3).heap[w.heap.size + 1 + 1]? = some o3 := by
  refine ⟨?_, ?_, ?_⟩
  · exact (((Ext.refl (w.alloc o1)).alloc o2).alloc o3).heap (heap_alloc_new w o1)
  · have h := ((Ext.refl ((w.alloc o1).alloc o2)).alloc o3).heap (heap_alloc_new (w.alloc o1) o2)
    simpa using h
  · have h := heap_alloc_new ((w.alloc o1).alloc o2) o3
    simpa using h
theorem blk2 {w : World} {g : Nat} {T : TypeId} {v0 v1 : Value} (h : w.heap[g]? = some (.cells #[v0, v1] T)) :
    w.cell? ⟨g, 0, none⟩ = some v0 ∧ w.cell? ⟨g, 1, none⟩ = some v1 ∧ w.frozen? ⟨g, 0, none⟩ = false ∧ w.frozen? ⟨g, 1, none⟩ = false := by
  refine ⟨?_, ?_, ?_, ?_⟩ <;> simp [World.cell?, World.frozen?, h]
/-- a desk of the call's own -/
def RetDk (D : Dk) (n m : Nat) (w : World) (e : Ending) (w' : World) : Prop := ∃ a c b d, e = .returned (.agg #[.slice a n c, .slice b m d]) ∧ DkIn w' D a n c b m d ∧ Ext w w'
set_option maxHeartbeats 1000000 in
theorem toDk (D : Dk) (a : Option Addr) (n c : Nat) (b : Option Addr) (m d : Nat) (w : World) (hv : RawDk w D a n c b m d) (hs : SmDk D n m) :
    Calls Try.prog 29 #[.agg #[.slice a n c, .slice b m d]] w (RetDk D n m w) := by
  have HS := Lib.hid (fun W (h : Ext w W) => toStrs a n c D.names W (hv.dk.ns.ext h) (by have := hs.1; omega))
  have HW := Lib.hid (fun W (h : Ext w W) => toWts b m d D.sys W (hv.dk.ws.ext h) (by have := hs.2.1; omega) (fun W hW => by
    obtain ⟨k, hk, rfl⟩ := List.mem_iff_getElem.1 hW
    have h1 := hs.2.2 k (by rw [← hv.dk.ws.1]; exact hk)
    have h2 : gw D.sys k = D.sys[k] := by simp [gw, List.getD_eq_getElem?_getD, hk]
    rw [h2] at h1; omega))
  have HL := Lib.hid hv.dk.ns.len
  have HM := Lib.hid hv.dk.ws.1
  have HZ := Lib.hid hv.dk.sz
  clear hv
  go_enter Try.func29, Try.ntmps29
  go_wp2_with fail
  refine (HS.out _ (by repeat (first | (with_reducible exact Ext.refl _) | (with_reducible refine Ext.drewN ?_ _) | (with_reducible refine Ext.drew ?_) | (with_reducible refine Ext.alloc ?_ _) | ((with_reducible refine Ext.setCell ?_ ?_ _); rotate_left; focus (first | (simp; done) | (simp; omega) | omega)) | assumption | (with_reducible refine Ext.trans ?_ (by assumption))))).mono ?_
  rintro e w1 ⟨a1, c1, rfl, ho1, hx1⟩
  rw [St_len, HL.out] at ho1 ⊢
  have HO1 := Lib.hid ho1
  have hxw1 : Ext w w1 := Ext.trans (by repeat (first | (with_reducible exact Ext.refl _) | (with_reducible refine Ext.drewN ?_ _) | (with_reducible refine Ext.drew ?_) | (with_reducible refine Ext.alloc ?_ _) | ((with_reducible refine Ext.setCell ?_ ?_ _); rotate_left; focus (first | (simp; done) | (simp; omega) | omega)) | assumption | (with_reducible refine Ext.trans ?_ (by assumption)))) hx1
  have hA := hx1.heap (heap3 w _ _ _).2.1
  have hB := hx1.heap (heap3 w _ _ _).2.2
  have hC := hx1.heap (heap3 w _ _ _).1
  have hs1 := hx1.size
  obtain ⟨k0, k1, k2, k3⟩ := blk2 hA
  obtain ⟨l0, l1, l2, l3⟩ := blk2 hB
  obtain ⟨m0, m1, m2, m3⟩ := blk2 hC
  go_wp2_with fail
  clear k0 k1 k2 k3 l0 l1 l2 l3 m0 m1 m2 m3
  have hB' : (w1.setCell ⟨w.heap.size + 1 + 1, 0, none⟩ (.slice a1 n c1)).heap[w.heap.size + 1 + 1]? = some (.cells #[.slice a1 n c1, .slice none 0 0] 52) := heap_setCell_same w1 _ 0 _ _ _ hB
  have hA' : (w1.setCell ⟨w.heap.size + 1 + 1, 0, none⟩ (.slice a1 n c1)).heap[w.heap.size + 1]? = some (.cells #[.slice none 0 0, .slice none 0 0] 52) := by rw [heap_setCell_other _ _ _ _ (by simp)]; exact hA
  refine (HW.out _ (by repeat (first | (with_reducible exact Ext.refl _) | (with_reducible refine Ext.drewN ?_ _) | (with_reducible refine Ext.drew ?_) | (with_reducible refine Ext.alloc ?_ _) | ((with_reducible refine Ext.setCell ?_ ?_ _); rotate_left; focus (first | (simp; done) | (simp; omega) | omega)) | assumption | (with_reducible refine Ext.trans ?_ (by assumption))))).mono ?_
  rintro e w2 ⟨a2, c2, rfl, ho2, hx2⟩
  rw [HM.out] at ho2 ⊢
  have HO2 := Lib.hid ho2
  have hxw2 : Ext w w2 := Ext.trans (by repeat (first | (with_reducible exact Ext.refl _) | (with_reducible refine Ext.drewN ?_ _) | (with_reducible refine Ext.drew ?_) | (with_reducible refine Ext.alloc ?_ _) | ((with_reducible refine Ext.setCell ?_ ?_ _); rotate_left; focus (first | (simp; done) | (simp; omega) | omega)) | assumption | (with_reducible refine Ext.trans ?_ (by assumption)))) hx2
  obtain ⟨k0, k1, k2, k3⟩ := blk2 (hx2.heap hA')
  obtain ⟨l0, l1, l2, l3⟩ := blk2 (hx2.heap hB')
  clear ho1 ho2 hA hB hC hA' hB' hs1
  go_wp2
  refine bodyPost_ret (v := .agg #[.slice a1 n c1, .slice a2 m c2]) ?_ rfl ?_
  · simp [results, Try.results29, go_sem, k0, k1]
  · have hs1 := hx1.size
    have hs2 := hx2.size
    simp at hs1 hs2
    refine ⟨a1, c1, a2, c2, rfl, ⟨Own.sl (((((HO1.out.setBelow (by simp) _).ext hx2).setBelow (by simp) _).setBelow (by simp) _).setBelow (by simp) _), HO2.out _ fun b hb => ?_, HZ.out⟩, (by repeat (first | (with_reducible exact Ext.refl _) | (with_reducible refine Ext.drewN ?_ _) | (with_reducible refine Ext.drew ?_) | (with_reducible refine Ext.alloc ?_ _) | ((with_reducible refine Ext.setCell ?_ ?_ _); rotate_left; focus (first | (simp; done) | (simp; omega) | omega)) | assumption | (with_reducible refine Ext.trans ?_ (by assumption))))⟩
    simp at hb
    rw [heap_setCell_other _ _ _ _ (by simp; omega), heap_setCell_other _ _ _ _ (by simp; omega), heap_setCell_other _ _ _ _ (by simp; omega)]
set_option maxHeartbeats 1000000 in
theorem eqDk (D : Dk) (a : Option Addr) (n c : Nat) (b : Option Addr) (m d : Nat) (a' : Option Addr) (c' : Nat) (b' : Option Addr) (d' : Nat) (w : World) (hv : DkIn w D a n c b m d) (hv' : DkIn w D a' n c' b' m d') (hs : SmDk D n m) :
    Calls Try.prog 31 #[.agg #[.slice a n c, .slice b m d], .agg #[.slice a' n c', .slice b' m d']] w (Ret (.bool true) w) := by
  have HS := Lib.hid (fun W (h : Ext w W) => eqStrs a a' n n c c' D.names D.names W (hv.ns.ext h) (hv'.ns.ext h) (by have := hs.1; omega) (by have := hs.1; omega))
  have HW := Lib.hid (fun W (h : Ext w W) => eqWts b b' m d d' D.sys W (hv.ws.ext h) (hv'.ws.ext h) (by have := hs.2.1; omega) (fun k hk => by have := hs.2.2 k hk; omega))
  rw [show decide (D.names = D.names) = true by simp] at HS
  clear hv hv'
  go_enter Try.func31, Try.ntmps31
  go_wp2_with (first | ((with_reducible refine (HS.out _ (by repeat (first | (with_reducible exact Ext.refl _) | (with_reducible refine Ext.drewN ?_ _) | (with_reducible refine Ext.drew ?_) | (with_reducible refine Ext.alloc ?_ _) | ((with_reducible refine Ext.setCell ?_ ?_ _); rotate_left; focus (first | (simp; done) | (simp; omega) | omega)) | assumption | (with_reducible refine Ext.trans ?_ (by assumption))))).mono ?_); rintro e w1 ⟨rfl, hy1⟩; have hxw1 : Ext w w1 := Ext.trans (by repeat (first | (with_reducible exact Ext.refl _) | (with_reducible refine Ext.drewN ?_ _) | (with_reducible refine Ext.drew ?_) | (with_reducible refine Ext.alloc ?_ _) | ((with_reducible refine Ext.setCell ?_ ?_ _); rotate_left; focus (first | (simp; done) | (simp; omega) | omega)) | assumption | (with_reducible refine Ext.trans ?_ (by assumption)))) hy1; obtain ⟨hc, hf⟩ := bcell hy1) | ((with_reducible refine (HW.out _ (by repeat (first | (with_reducible exact Ext.refl _) | (with_reducible refine Ext.drewN ?_ _) | (with_reducible refine Ext.drew ?_) | (with_reducible refine Ext.alloc ?_ _) | ((with_reducible refine Ext.setCell ?_ ?_ _); rotate_left; focus (first | (simp; done) | (simp; omega) | omega)) | assumption | (with_reducible refine Ext.trans ?_ (by assumption))))).mono ?_); rintro e w2 ⟨rfl, hy2⟩))
  go_ret
  exact ⟨rfl, (by repeat (first | (with_reducible exact Ext.refl _) | (with_reducible refine Ext.drewN ?_ _) | (with_reducible refine Ext.drew ?_) | (with_reducible refine Ext.alloc ?_ _) | ((with_reducible refine Ext.setCell ?_ ?_ _); rotate_left; focus (first | (simp; done) | (simp; omega) | omega)) | assumption | (with_reducible refine Ext.trans ?_ (by assumption))))⟩
end Go.Proofs.Ytlpbflmgkopklaa
