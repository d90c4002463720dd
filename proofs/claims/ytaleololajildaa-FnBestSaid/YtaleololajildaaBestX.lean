/- Walks: BestWeights, CountBest, UnseenPairs in the program. -/
import Derived.Test.YtaleololajildaaBestW
namespace Go.Proofs.Ytaleololajildaa
open Go.RowKit


def RetBW (base modulus places : Int) (costs : List Int) (w : World) (e : Ending) (w' : World) : Prop :=
  Ext w w' ∧ if bestOk base modulus places costs = true then
    ∃ sa sn sc l, e = .returned (.tuple #[.slice sa sn sc, .int .i64 (bestF base modulus places costs).2.1, .bool true]) ∧ (bestF base modulus places costs).1 = some l ∧ sn = l.length ∧ Own w' w.heap.size 2 sa sn sc (I l)
    else e = .returned (.tuple #[.slice none 0 0, .int .i64 0, .bool false])
set_option maxHeartbeats 400000 in
theorem impl_BestWeights (base modulus places : Int) (a : Option Addr) (n c : Nat) (costs : List Int) (w : World) (hc : Ints w a n c costs) :
    Calls Try.prog 20 #[.int .i64 base, .int .i64 modulus, .int .i64 places, .slice a n c] w (RetBW base modulus places costs w) := by
  have H := Lib.hid (impl_bestWeights base modulus places a n c costs w hc)
  clear hc
  by_cases hok : bestOk base modulus places costs = true
  · have HK := Lib.hid hok
    go_enter Try.func20, Try.ntmps20
    go_wp2_with (refine H.out.mono ?_; rintro e w' ⟨hx, hr⟩; rw [if_pos HK.out] at hr; obtain ⟨sa, sn, sc, l, rfl, hl, hn, ho⟩ := hr; have HL := Lib.hid hl; have HN := Lib.hid hn; clear hl hn)
    refine bodyPost_ret (v := .tuple #[.slice sa sn sc, .int .i64 (bestF base modulus places costs).2.1, .bool true]) (by simp [results, Try.results20, go_sem]) rfl ⟨hx, ?_⟩
    rw [if_pos HK.out]
    exact ⟨sa, sn, sc, l, rfl, HL.out, HN.out, ho⟩
  · have HK := Lib.hid hok
    clear hok
    go_enter Try.func20, Try.ntmps20
    go_wp2_with (refine H.out.mono ?_; rintro e w' ⟨hx, hr⟩; rw [if_neg HK.out] at hr; subst hr)
    refine bodyPost_ret (v := .tuple #[.slice none 0 0, .int .i64 0, .bool false]) (by simp [results, Try.results20, go_sem]) rfl ⟨hx, ?_⟩
    rw [if_neg HK.out]

def RetCB (base modulus places : Int) (costs : List Int) (w : World) (e : Ending) (w' : World) : Prop :=
  Ext w w' ∧ e = .returned (.tuple #[.int .i64 (if bestOk base modulus places costs = true then (bestF base modulus places costs).2.2 else 0), .bool (bestOk base modulus places costs)])
set_option maxHeartbeats 400000 in
theorem impl_CountBest (base modulus places : Int) (a : Option Addr) (n c : Nat) (costs : List Int) (w : World) (hc : Ints w a n c costs) :
    Calls Try.prog 21 #[.int .i64 base, .int .i64 modulus, .int .i64 places, .slice a n c] w (RetCB base modulus places costs w) := by
  have H := Lib.hid (impl_bestWeights base modulus places a n c costs w hc)
  clear hc
  by_cases hok : bestOk base modulus places costs = true
  · have HK := Lib.hid hok
    clear hok
    go_enter Try.func21, Try.ntmps21
    go_wp2_with (refine H.out.mono ?_; rintro e w' ⟨hx, hr⟩; rw [if_pos HK.out] at hr; obtain ⟨sa, sn, sc, l, rfl, hl, hn, ho⟩ := hr; have HL := Lib.hid hl; have HN := Lib.hid hn; clear hl hn)
    go_ret2
    exact ⟨hx, by rw [if_pos HK.out, HK.out]; rfl⟩
  · have HK := Lib.hid hok
    have HK2 := Lib.hid (show bestOk base modulus places costs = false by simpa using hok)
    clear hok
    go_enter Try.func21, Try.ntmps21
    go_wp2_with (refine H.out.mono ?_; rintro e w' ⟨hx, hr⟩; rw [if_neg HK.out] at hr; subst hr)
    go_ret2
    exact ⟨hx, by rw [if_neg HK.out, HK2.out]; rfl⟩

def unsOk (W : Wt) (k p : Int) : Bool := validB W && (kindB k W.base && inB p 0 ((W.weights.length : Int) - elen k))
def unsRes (W : Wt) (k p : Int) : Int := if unsOk W k p = true then unseenF W k p.toNat else 0
set_option maxHeartbeats 1000000 in
theorem impl_UnseenPairs (W : Wt) (a : Option Addr) (n c : Nat) (k p : Int) (w : World) (hw : Ints w a n c W.weights) (hn : n ≤ 4611686018427387904) :
    Calls Try.prog 24 #[.agg #[.int .i64 W.base, .int .i64 W.modulus, .int .i64 W.target, .slice a n c], .int .i64 k, .int .i64 p] w (Ret2 (.int .i64 (unsRes W k p)) (.bool (unsOk W k p)) w) := by
  obtain ⟨base, modulus, target, l⟩ := W
  simp only at hw ⊢
  have HL := Lib.hid hw.len
  have HB := Lib.hid (isWt_box w base modulus target l a n c 31 hw)
  have HI := Lib.hid (impl_valid ⟨base, modulus, target, l⟩ a n c _ HB.out.ws)
  simp only at HI
  clear hw
  have hbox : ∀ w', Ext (w.alloc (.cells #[.int .i64 base, .int .i64 modulus, .int .i64 target, .slice a n c] 31)) w' → IsWt w' w.heap.size ⟨base, modulus, target, l⟩ a n c := fun w' h => HB.out.ext h
  have HBX := Lib.hid hbox
  clear hbox
  cases hv : validB ⟨base, modulus, target, l⟩
  · rw [hv] at HI
    have HO := Lib.hid (show unsOk ⟨base, modulus, target, l⟩ k p = false by simp [unsOk, hv])
    have HR := Lib.hid (show unsRes ⟨base, modulus, target, l⟩ k p = 0 by rw [unsRes, HO.out]; rfl)
    clear hv
    go_enter Try.func24, Try.ntmps24
    go_wp2_with (refine HI.out.mono ?_; rintro e w' ⟨rfl, hx⟩)
    go_ret2
    exact ret2_int HR.out HO.out (((Ext.refl _).alloc _).trans hx)
  rw [hv] at HI
  have HK := Lib.hid (impl_kind k base)
  cases hk : kindB k base
  · rw [hk] at HK
    have HO := Lib.hid (show unsOk ⟨base, modulus, target, l⟩ k p = false by simp [unsOk, hk])
    have HR := Lib.hid (show unsRes ⟨base, modulus, target, l⟩ k p = 0 by rw [unsRes, HO.out]; rfl)
    clear hv hk
    go_enter Try.func24, Try.ntmps24
    go_wp2_with (first | ((with_reducible refine HI.out.mono ?_); rintro e w' ⟨rfl, hx⟩; obtain ⟨c0, c1, c2, c3, _⟩ := HBX.out _ hx) | (go_at_call 44; refine (HK.out _).mono ?_; rintro e w2 ⟨rfl, rfl⟩))
    go_ret2
    exact ret2_int HR.out HO.out (((Ext.refl _).alloc _).trans hx)
  rw [hk] at HK
  have HLs := Lib.hid (fun w => impl_last n k w (by omega) (by omega))
  have HP := Lib.hid (impl_in p 0 ((n : Int) - elen k))
  have hg := validB_good hv
  have h20 : n ≤ 20 := by have := hg.l20; simp only at this; rw [HL.out] at this; exact this
  have hel := elen_bd k
  cases hp : inB p 0 ((n : Int) - elen k)
  · rw [hp] at HP
    have HO := Lib.hid (show unsOk ⟨base, modulus, target, l⟩ k p = false by simp only [unsOk, HL.out, hp]; simp)
    have HR := Lib.hid (show unsRes ⟨base, modulus, target, l⟩ k p = 0 by rw [unsRes, HO.out]; rfl)
    clear hv hk hp
    go_enter Try.func24, Try.ntmps24
    go_wp2_with (first | ((with_reducible refine HI.out.mono ?_); rintro e w' ⟨rfl, hx⟩; obtain ⟨c0, c1, c2, c3, _⟩ := HBX.out _ hx) | (go_at_call 44; refine (HK.out _).mono ?_; rintro e w2 ⟨rfl, rfl⟩) | (go_at_call 45; refine (HLs.out _).mono ?_; rintro e w2 ⟨rfl, rfl⟩) | (go_at_call 30; refine (HP.out _).mono ?_; rintro e w2 ⟨rfl, rfl⟩))
    go_ret2
    exact ret2_int HR.out HO.out (((Ext.refl _).alloc _).trans hx)
  · have hpb := inB_t.1 hp
    have hkb : inB k 0 5 = true := by unfold kindB at hk; simp at hk; exact hk.1
    have hkk := inB_t.1 hkb
    obtain ⟨q, rfl⟩ := Int.eq_ofNat_of_zero_le (show 0 ≤ p by omega)
    rw [hp] at HP
    have HO := Lib.hid (show unsOk ⟨base, modulus, target, l⟩ k q = true by simp only [unsOk, HL.out, hp, hv, hk]; rfl)
    have HR := Lib.hid (show unsRes ⟨base, modulus, target, l⟩ k q = unseenF ⟨base, modulus, target, l⟩ k q by rw [unsRes, HO.out, if_pos rfl, Int.toNat_natCast])
    have HU := Lib.hid (fun (w' : World) h => impl_unseen w.heap.size ⟨base, modulus, target, l⟩ a n c k q w' h hkk.1 hkk.2 (by omega) h20 hg.small hg.m2 hg.m36 hg.b2 hg.b36)
    clear hv hk hp hkb hg
    go_enter Try.func24, Try.ntmps24
    go_wp2_with (first | ((with_reducible refine HI.out.mono ?_); rintro e w' ⟨rfl, hx⟩; obtain ⟨c0, c1, c2, c3, _⟩ := HBX.out _ hx) | (go_at_call 44; refine (HK.out _).mono ?_; rintro e w2 ⟨rfl, rfl⟩) | (go_at_call 45; refine (HLs.out _).mono ?_; rintro e w2 ⟨rfl, rfl⟩) | (go_at_call 30; refine (HP.out _).mono ?_; rintro e w2 ⟨rfl, rfl⟩) | (go_at_call 46; refine (HU.out _ (HBX.out _ hx)).mono ?_; rintro e w2 ⟨rfl, m2, rfl⟩))
    go_ret2
    exact ret2_int HR.out HO.out (by repeat (first | (with_reducible exact Ext.refl _) | (with_reducible refine Ext.drewN ?_ _) | (with_reducible refine Ext.drew ?_) | (with_reducible refine Ext.alloc ?_ _) | ((with_reducible refine Ext.setCell ?_ ?_ _); rotate_left; focus (first | (simp; done) | (simp; omega) | omega)) | (with_reducible refine Ext.trans ?_ hx)))
end Go.Proofs.Ytaleololajildaa
