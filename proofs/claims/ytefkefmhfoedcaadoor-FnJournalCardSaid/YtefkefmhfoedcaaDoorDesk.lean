/- Walks: names, on both sides. -/
import Derived.Test.YtefkefmhfoedcaaDoorWords
import Derived.Test.YtefkefmhfoedcaaDoorMix
import Derived.Test.YtefkefmhfoedcaaDoorWts
import Derived.Test.YtefkefmhfoedcaaDoorCube
namespace Go.Proofs.YtefkefmhfoedcaaDoor
set_option maxRecDepth 100000
open Go.RowKit

def nameC (x : UInt8) : Bool := decide (97 ≤ x.toNat) && decide (x.toNat ≤ 122)
def nameB (s : ByteArray) : Bool := s.data.toList.all nameC && (decide (1 ≤ s.size) && decide (s.size ≤ 8))
theorem nameC_bd {c : UInt8} (h : nameC c = true) : 97 ≤ c.toNat ∧ c.toNat ≤ 122 := by simpa [nameC] using h

set_option maxHeartbeats 1000000 in
theorem spec_IsName (s : ByteArray) (w : World) (hs : s.size ≤ 9223372036854775807) :
    Calls Tryd.prog 46 #[.string s] w (Same (.bool (nameB s)) w) := by
  go_enter Tryd.func46, Tryd.ntmps46
  go_wp2_with fail
  go_loop [3] (fun i => ∃ k : Nat, k ≤ s.size ∧ i = .int .i64 k ∧ (s.data.toList.take k).all nameC = true) (fun i => s.size - (intOf i).toNat)
  case atStart => exact ⟨0, Nat.zero_le _, rfl, rfl⟩
  case round =>
    obtain ⟨k, hk, rfl, hp⟩ := hrel
    have Hhp := Lib.hid hp; clear hp
    by_cases hlt : k < s.size
    · have HS := Lib.hid (fun h => allc_step (p := nameC) hlt h Hhp.out)
      have HF := Lib.hid (fun h => allc_no (p := nameC) hlt h)
      cases hg : nameC s[k]
      · have HNo := Lib.hid (HF.out hg)
        have hb : ¬ 97 ≤ s[k].toNat ∨ ¬ s[k].toNat ≤ 122 := by unfold nameC at hg; simp at hg; omega
        clear HS HF hg
        by_cases h1 : 97 ≤ s[k].toNat
        all_goals
          go_wp2
          go_ret
          exact ⟨rb (by rw [show nameB s = false by unfold nameB; rw [HNo.out]; rfl]), rfl⟩
      · have hb := nameC_bd hg
        have HNo := Lib.hid (HS.out hg)
        obtain ⟨b1, b2⟩ := hb
        clear HS HF hg
        go_wp2
        exact ⟨⟨k + 1, by omega, by go_num, HNo.out⟩, by simp [intOf]; omega⟩
    · obtain rfl : k = s.size := by omega
      have hc : s.data.toList.all nameC = true := by have := Hhp.out; rwa [take_full (by simp)] at this
      by_cases h1 : (1 : Int) ≤ s.size
      · have HQ := Lib.hid (show nameB s = decide ((s.size : Int) ≤ 8) by unfold nameB; rw [hc]; have : 1 ≤ s.size := by omega
                                                                          simp [this]; omega)
        clear hc
        go_wp2
        go_ret
        exact ⟨rb HQ.out.symm, rfl⟩
      · have HQ := Lib.hid (show nameB s = false by unfold nameB; rw [hc]; simp; omega)
        clear hc
        go_wp2
        go_ret
        exact ⟨rb HQ.out.symm, rfl⟩
end Go.Proofs.YtefkefmhfoedcaaDoor

/- Walks: desks: which are valid, on both sides. -/
namespace Go.Proofs.YtefkefmhfoedcaaDoor
set_option maxRecDepth 100000
open Go.RowKit

structure Dk where
  names : List ByteArray
  sys : List Wt
/-- the k-th name and system are right -/
def okD (D : Dk) (k : Nat) : Bool := nameB (gs D.names k) && ((decide (k = 0) || Op.bytesLess (gs D.names (k - 1)).toList (gs D.names k).toList) && validB (gw D.sys k))
def deskB (D : Dk) : Bool := (decide (D.names.length ≤ 6) && decide (D.sys.length = D.names.length)) && (List.range D.names.length).all (okD D)
set_option maxHeartbeats 2000000 in
theorem spec_isO (b o : Nat) (W : Wt) (a : Option Addr) (n c : Nat) (w : World) (h : WtO w b o W a n c) :
    Calls Tryd.prog 25 #[.pointer (some ⟨b, o, none⟩)] w (Qt (.bool (validB W)) w) := by
  obtain ⟨base, modulus, target, l⟩ := W
  obtain ⟨c0, c1, c2, c3, hw⟩ := h
  simp only at c0 c1 c2 c3 hw
  have HL := Lib.hid hw.len
  have HW := Lib.hid hw
  clear hw
  have HM := Lib.hid (spec_many base n)
  have HI := Lib.hid (spec_in modulus 2 36)
  have HT := Lib.hid (spec_in target 0 (modulus - 1))
  cases hm : manyB base n
  · rw [hm] at HM
    have HV := Lib.hid (show validB ⟨base, modulus, target, l⟩ = false by rw [validB, HL.out, hm]; rfl)
    clear hm
    go_enter Tryd.func25, Tryd.ntmps25
    go_wp2
    go_quiet ((go_at_call 39; exact quietS (HM.out _)))
    go_wp2
    go_ret
    exact ⟨rb HV.out.symm, _, rfl⟩
  · rw [hm] at HM
    have hn : n ≤ 20 := by
      have : inB n 1 20 = true := by unfold manyB at hm; simp at hm; exact hm.2.1
      have := (inB_t.1 this).2; omega
    cases hi : inB modulus 2 36
    · rw [hi] at HI
      have HV := Lib.hid (show validB ⟨base, modulus, target, l⟩ = false by rw [validB, HL.out, hm, hi]; rfl)
      clear hm hi
      go_enter Tryd.func25, Tryd.ntmps25
      go_wp2
      go_quiet ((first | (go_at_call 39; exact quietS (HM.out _)) | (go_at_call 40; with_reducible exact quietS (HI.out _))))
      go_wp2
      go_ret
      exact ⟨rb HV.out.symm, _, rfl⟩
    · rw [hi] at HI
      obtain ⟨m2, m36⟩ := inB_t.1 hi
      cases ht : inB target 0 (modulus - 1)
      · rw [ht] at HT
        have HV := Lib.hid (show validB ⟨base, modulus, target, l⟩ = false by rw [validB, HL.out, hm, hi, ht]; rfl)
        clear hm hi ht
        go_enter Tryd.func25, Tryd.ntmps25
        go_wp2
        go_quiet ((first | (go_at_call 39; exact quietS (HM.out _)) | (go_at_call 40; with_reducible exact quietS (HI.out _)) | (go_at_call 40; with_reducible exact quietS (HT.out _))))
        go_wp2
        go_ret
        exact ⟨rb HV.out.symm, _, rfl⟩
      · rw [ht] at HT
        have HV := Lib.hid (show validB ⟨base, modulus, target, l⟩ = belowB l modulus by rw [validB, HL.out, hm, hi, ht]; rfl)
        clear hm hi ht
        go_enter Tryd.func25, Tryd.ntmps25
        go_wp2
        go_quiet ((first | (go_at_call 39; exact quietS (HM.out _)) | (go_at_call 40; with_reducible exact quietS (HI.out _)) | (go_at_call 40; with_reducible exact quietS (HT.out _)) | (go_at_call 41; exact quietS (spec_below _ _ _ l _ _ (HW.out.drewN _) (by omega) (by omega) (by omega)))))
        go_wp2
        go_ret
        exact ⟨rb HV.out.symm, _, rfl⟩

structure DkAt (w : World) (q : Nat) (D : Dk) (a : Option Addr) (n c : Nat) (b : Option Addr) (m d : Nat) : Prop where
  c0 : ∀ w', Ext w w' → w'.cell? ⟨q, 0, none⟩ = some (.slice a n c)
  c1 : ∀ w', Ext w w' → w'.cell? ⟨q, 1, none⟩ = some (.slice b m d)
  ns : Strs w a n c D.names
  ws : Wts w b m d D.sys
  sz : ∀ s ∈ D.names, s.size ≤ 9223372036854775807
structure DkIn (w : World) (D : Dk) (a : Option Addr) (n c : Nat) (b : Option Addr) (m d : Nat) : Prop where
  ns : Strs w a n c D.names
  ws : Wts w b m d D.sys
  sz : ∀ s ∈ D.names, s.size ≤ 9223372036854775807
theorem DkIn.ext {w w' : World} {D : Dk} {a : Option Addr} {n c : Nat} {b : Option Addr} {m d : Nat} (h : DkIn w D a n c b m d) (hx : Ext w w') : DkIn w' D a n c b m d := ⟨h.ns.ext hx, h.ws.ext hx, h.sz⟩
theorem DkIn.box {w : World} {D : Dk} {a : Option Addr} {n c : Nat} {b : Option Addr} {m d : Nat} (h : DkIn w D a n c b m d) (T : TypeId) : DkAt (w.alloc (.cells #[.slice a n c, .slice b m d] T)) w.heap.size D a n c b m d :=
  ⟨fun _ hx => hx.cell (by go_simp), fun _ hx => hx.cell (by go_simp), h.ns.ext ((Ext.refl w).alloc _), h.ws.ext ((Ext.refl w).alloc _), h.sz⟩
theorem desk_no0 {D : Dk} (h : ¬ (D.names.length ≤ 6 ∧ D.sys.length = D.names.length)) : deskB D = false := by
  unfold deskB
  by_cases h1 : D.names.length ≤ 6
  · have : ¬ D.sys.length = D.names.length := fun h2 => h ⟨h1, h2⟩
    simp [this]
  · simp [h1]
theorem desk_no {D : Dk} {k : Nat} (hk : k < D.names.length) (h : okD D k = false) : deskB D = false := by
  unfold deskB
  rw [List.all_eq_false.2 ⟨k, List.mem_range.2 hk, by rw [h]; simp⟩]; simp
theorem desk_yes {D : Dk} (h0 : D.names.length ≤ 6) (h1 : D.sys.length = D.names.length) (h : ∀ k, k < D.names.length → okD D k = true) : deskB D = true := by
  unfold deskB
  rw [List.all_eq_true.2 fun k hk => h k (List.mem_range.1 hk)]; simp [h0, h1]
theorem Wts.ix {P : Program} {w : World} {a : Option Addr} {n c : Nat} {L : List Wt} (h : Wts w a n c L) (T E : TypeId) (ht : P.underlying T = some (.slice E)) (he : P.cellsOf E = 4) (k : Nat) (hk : k < n) (K : IntKind) :
    ∃ b o a' n' c', (∀ w', (Instr.indexAt T (.slice a n c) (.int K k)).run P w' = .ok (.pointer (some ⟨b, o, none⟩)) w') ∧
      (∀ w', Ext w w' → w'.cell? ⟨b, o, none⟩ = some (.int .i64 (gw L k).base)) ∧ (∀ w', Ext w w' → w'.cell? ⟨b, o + 1, none⟩ = some (.int .i64 (gw L k).modulus)) ∧ (∀ w', Ext w w' → w'.cell? ⟨b, o + 2, none⟩ = some (.int .i64 (gw L k).target)) ∧ (∀ w', Ext w w' → w'.cell? ⟨b, o + 3, none⟩ = some (.slice a' n' c')) ∧ WtO w b o (gw L k) a' n' c' := by
  obtain ⟨b, o, a', n', c', h1, h2⟩ := h.at T E ht he k hk K
  exact ⟨b, o, a', n', c', h1, fun _ hx => hx.cell h2.c0, fun _ hx => hx.cell h2.c1, fun _ hx => hx.cell h2.c2, fun _ hx => hx.cell h2.c3, h2⟩

theorem uptoD {p : Nat → Bool} {k : Nat} (h : ∀ j, j < k → p j = true) (hk : p k = true) : ∀ j, j < k + 1 → p j = true := fun j hj => by
  by_cases e : j < k
  · exact h j e
  · obtain rfl : j = k := by omega
    exact hk
theorem Strs.one {P : Program} {w : World} {a : Option Addr} {n c : Nat} {l : List ByteArray} (h : Strs w a n c l) (T E : TypeId) (ht : P.underlying T = some (.slice E)) (he : P.cellsOf E = 1) (i : Int) (h0 : 0 ≤ i) (h1 : i < n) :
    ∃ b off, One P T w a n c i b off (.string (gs l i.toNat)) := by
  obtain ⟨b, off, h2⟩ := Sl.one h T E ht he i h0 h1
  rw [gv_St (by rw [h.len]; omega)] at h2
  exact ⟨b, off, h2⟩
end Go.Proofs.YtefkefmhfoedcaaDoor
