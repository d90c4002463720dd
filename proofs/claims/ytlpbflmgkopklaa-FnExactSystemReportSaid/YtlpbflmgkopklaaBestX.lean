/- Walks: BestWeights, CountBest, UnseenPairs in the program. -/
import Derived.Test.YtlpbflmgkopklaaBestW
namespace Go.Proofs.Ytlpbflmgkopklaa
set_option maxRecDepth 100000
open Go.RowKit


def RetBW (base modulus places : Int) (costs : List Int) (w : World) (e : Ending) (w' : World) : Prop :=
  Ext w w' ∧ if bestOk base modulus places costs = true then
    ∃ sa sn sc l, e = .returned (.tuple #[.slice sa sn sc, .int .i64 (bestF base modulus places costs).2.1, .bool true]) ∧ (bestF base modulus places costs).1 = some l ∧ sn = l.length ∧ Own w' w.heap.size 2 sa sn sc (I l)
    else e = .returned (.tuple #[.slice none 0 0, .int .i64 0, .bool false])
set_option maxHeartbeats 400000 in
theorem impl_BestWeights (base modulus places : Int) (a : Option Addr) (n c : Nat) (costs : List Int) (w : World) (hc : Ints w a n c costs) :
    Calls Try.prog 26 #[.int .i64 base, .int .i64 modulus, .int .i64 places, .slice a n c] w (RetBW base modulus places costs w) := by
  have H := Lib.hid (impl_bestWeights base modulus places a n c costs w hc)
  clear hc
  by_cases hok : bestOk base modulus places costs = true
  · have HK := Lib.hid hok
    go_enter Try.func26, Try.ntmps26
    go_wp2_with (refine H.out.mono ?_; rintro e w' ⟨hx, hr⟩; rw [if_pos HK.out] at hr; obtain ⟨sa, sn, sc, l, rfl, hl, hn, ho⟩ := hr; have HL := Lib.hid hl; have HN := Lib.hid hn; clear hl hn)
    refine bodyPost_ret (v := .tuple #[.slice sa sn sc, .int .i64 (bestF base modulus places costs).2.1, .bool true]) (by simp [results, Try.results26, go_sem]) rfl ⟨hx, ?_⟩
    rw [if_pos HK.out]
    exact ⟨sa, sn, sc, l, rfl, HL.out, HN.out, ho⟩
  · have HK := Lib.hid hok
    clear hok
    go_enter Try.func26, Try.ntmps26
    go_wp2_with (refine H.out.mono ?_; rintro e w' ⟨hx, hr⟩; rw [if_neg HK.out] at hr; subst hr)
    refine bodyPost_ret (v := .tuple #[.slice none 0 0, .int .i64 0, .bool false]) (by simp [results, Try.results26, go_sem]) rfl ⟨hx, ?_⟩
    rw [if_neg HK.out]

def RetCB (base modulus places : Int) (costs : List Int) (w : World) (e : Ending) (w' : World) : Prop :=
  Ext w w' ∧ e = .returned (.tuple #[.int .i64 (if bestOk base modulus places costs = true then (bestF base modulus places costs).2.2 else 0), .bool (bestOk base modulus places costs)])
set_option maxHeartbeats 400000 in
theorem impl_CountBest (base modulus places : Int) (a : Option Addr) (n c : Nat) (costs : List Int) (w : World) (hc : Ints w a n c costs) :
    Calls Try.prog 24 #[.int .i64 base, .int .i64 modulus, .int .i64 places, .slice a n c] w (RetCB base modulus places costs w) := by
  have H := Lib.hid (impl_bestWeights base modulus places a n c costs w hc)
  clear hc
  by_cases hok : bestOk base modulus places costs = true
  · have HK := Lib.hid hok
    clear hok
    go_enter Try.func24, Try.ntmps24
    go_wp2_with (refine H.out.mono ?_; rintro e w' ⟨hx, hr⟩; rw [if_pos HK.out] at hr; obtain ⟨sa, sn, sc, l, rfl, hl, hn, ho⟩ := hr; have HL := Lib.hid hl; have HN := Lib.hid hn; clear hl hn)
    go_ret2
    exact ⟨hx, by rw [if_pos HK.out, HK.out]; rfl⟩
  · have HK := Lib.hid hok
    have HK2 := Lib.hid (show bestOk base modulus places costs = false by simpa using hok)
    clear hok
    go_enter Try.func24, Try.ntmps24
    go_wp2_with (refine H.out.mono ?_; rintro e w' ⟨hx, hr⟩; rw [if_neg HK.out] at hr; subst hr)
    go_ret2
    exact ⟨hx, by rw [if_neg HK.out, HK2.out]; rfl⟩

end Go.Proofs.Ytlpbflmgkopklaa
