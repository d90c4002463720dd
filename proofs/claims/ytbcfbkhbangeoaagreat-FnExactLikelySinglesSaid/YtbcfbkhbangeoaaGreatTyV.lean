/- Walks: all lists of symbols and what errors make of them, in the specification. -/
import Derived.Test.YtbcfbkhbangeoaaGreatTyD
import Derived.Test.YtbcfbkhbangeoaaGreatChg
import Derived.Test.YtbcfbkhbangeoaaGreatTyO
import Derived.Test.YtbcfbkhbangeoaaGreatNear
import Derived.Test.YtbcfbkhbangeoaaGreatCube
import Derived.Test.YtbcfbkhbangeoaaGreatWords
namespace Go.Proofs.YtbcfbkhbangeoaaGreat
set_option maxRecDepth 100000
open Go.RowKit

/-- two rows of lists of the call's own, apart -/
structure TwoM (w W : World) (a : Option Addr) (n c : Nat) (a' : Option Addr) (n' c' : Nat) (L L' : List (List Int)) : Prop where
  m : OwnMat W w.heap.size 25 2 a n c L
  m' : OwnMat W w.heap.size 25 2 a' n' c' L'
  ap : ∀ g g', a = some g → a' = some g' → g.block ≠ g'.block
  ex : Ext w W
theorem TwoM.ext {w W W' : World} {a : Option Addr} {n c : Nat} {a' : Option Addr} {n' c' : Nat} {L L' : List (List Int)} (h : TwoM w W a n c a' n' c' L L') (hx : Ext W W') : TwoM w W' a n c a' n' c' L L' :=
  ⟨h.m.ext hx, h.m'.ext hx, h.ap, h.ex.trans hx⟩
theorem TwoM.flip {w W : World} {a : Option Addr} {n c : Nat} {a' : Option Addr} {n' c' : Nat} {L L' : List (List Int)} (h : TwoM w W a n c a' n' c' L L') : TwoM w W a' n' c' a n c L' L :=
  ⟨h.m', h.m, fun g g' e e' => (h.ap g' g e' e).symm, h.ex⟩
theorem OwnMat.grownB {w w' : World} {B : Nat} {E1 E0 : TypeId} {a : Option Addr} {n c : Nat} {ll : List (List Int)} (h : OwnMat w B E1 E0 a n c ll) {row : Option Nat} (hg : w.grownBy w' row) (h1 : ∀ g, a = some g → some g.block ≠ row) (h0 : ∀ k, k < n → ∀ a' n' c', Own w B E0 a' n' c' (I (gl ll k)) → ∀ g, a' = some g → some g.block ≠ row) : OwnMat w' B E1 E0 a n c ll :=
  ⟨h.len, let ⟨vs, g1, g2⟩ := h.rows; ⟨vs, g1.grown hg h1, fun k hk => let ⟨a1, n1, c1, g3, g4⟩ := g2 k hk; ⟨a1, n1, c1, g3, g4.grown hg (h0 k hk a1 n1 c1 g4)⟩⟩⟩
theorem two_ne : 2 ≠ 25 := by decide
theorem info_rowQ : (Tryz.prog.info? 25).map (fun i => (i.zero, i.size, i.bytes)) = some (some (.slice none 0 0), 1, 24) := by kernel_rfl
/-- one list more at the first row -/
theorem law_two (w : World) (a : Option Addr) (n c : Nat) (a' : Option Addr) (n' c' : Nat) (L L' : List (List Int)) (W : World) (hT : TwoM w W a n c a' n' c' L L') (r : List Int) (cs : Array Value) (hr : cs.toList = I r) (hrl : r.length ≤ 8) {ops : Array Oper} {rest : List Oper} {o : Oper} {A : Act} {Q : Exit → Act → World → Prop}
    (hg : o.guard = none) (s x : Operand) (hop : o.op = Op.call { callee := Callee.builtin Builtin.append, args := #[s, x], argTypes := #[60, 60] }) (k : Nat) (hk : k = r.length)
    (hs : A.eval s = .slice a n c) (hx : A.eval x = .slice (some ⟨W.heap.size + 1, 0, none⟩) 1 1) (hn : n ≤ 1048576)
    (hK : ∀ ad cc w', TwoM w w' ad (n + 1) cc a' n' c' (L ++ [r]) L' → wpList Tryz.prog ops Q rest (A.put o.dst (.slice ad (n + 1) cc)) w') :
    wpList Tryz.prog ops Q (o :: rest) A ((W.alloc (.cells cs 2)).alloc (.cells #[.slice (some ⟨W.heap.size, 0, none⟩) k k] 25)) := by
  obtain ⟨hlen, vs, ho, hps⟩ := hT.m
  have hx1 : Ext W (W.alloc (.cells cs 2)) := (Ext.refl W).alloc _
  have hnew : Own (W.alloc (.cells cs 2)) w.heap.size 2 (some ⟨W.heap.size, 0, none⟩) k k (I r) := by
    have h := World.ownsRow_lit (e := 2) (size := 1) (base := w.heap.size) W cs k hT.ex.le (by unfold maxLen; omega) (by rw [Nat.mul_one, hk, ← I_len r, ← hr]; simp)
    rw [hr] at h; exact h
  refine law_append1_at (W.alloc (.cells cs 2)) hg s x 60 hop 25 (.slice none 0 0) 24 und_rows info_rowQ rfl w.heap.size a n c vs (.slice (some ⟨W.heap.size, 0, none⟩) k k) rfl hs (by rw [hx]; simp) (ho.ext hx1) (Nat.le_trans hT.ex.le hx1.le) (by omega) (by omega) ?_
  intro ad cc w' ho' hb hgr hap
  refine hK ad cc w' ⟨OwnMat.push hlen (fun j hj => let ⟨p, q, t, g1, g2⟩ := hps j hj; ⟨p, q, t, g1, g2.ext hx1⟩) (ho.ext hx1) hnew ho' hgr two_ne, ?_, ?_, Ext.below (hT.ex.trans hx1) hb⟩
  · refine OwnMat.grownB (hT.m'.ext hx1) hgr (fun g hga => ?_) (fun j _ p q t hp g hga => ?_)
    · cases a with
      | none => simp [Value.ownBlock]
      | some g1 => intro e; exact hT.ap g1 g rfl hga (by simpa [Value.ownBlock] using e.symm)
    · cases a with
      | none => simp [Value.ownBlock]
      | some g1 =>
        have hne := own_ne_type hp (ho.ext hx1) two_ne g g1 hga rfl
        intro e; exact hne (by simpa [Value.ownBlock] using e)
  · rintro g g' rfl rfl he
    rcases hap g rfl with ⟨g0, h1, h2⟩ | h2
    · exact hT.ap g0 g' h1 rfl (h2.trans he)
    · obtain ⟨vs', hv', _⟩ := hT.m'.rows
      have := (World.ownsRow.lt hv' g'.block (by
        rcases hv'.2 with ⟨h, _⟩ | ⟨q, cap, cur, hv, _⟩
        · cases h
        · simp only [Value.slice.injEq, Option.some.injEq] at hv; rw [hv.1]; rfl)).2
      have := hx1.le
      omega
end Go.Proofs.YtbcfbkhbangeoaaGreat

/- Walks: spec.l02Wrong, by kinds. -/
namespace Go.Proofs.YtbcfbkhbangeoaaGreat
set_option maxRecDepth 100000
open Go.RowKit

/-- what a jump error makes of three symbols, the last one running -/
def jumpP (k a x m : Nat) : List (List Int × List Int) := ((List.range m).filter fun (c : Nat) => !decide (a = c)).map fun (c : Nat) => if k = 2 then ([(a : Int), x, c], [(c : Int), x, a]) else ([(a : Int), x, a], [(c : Int), x, c])
def cellP (k b a x : Nat) : List (List Int × List Int) :=
  if k = 0 then (if a = x then [] else [([(a : Int)], [(x : Int)])])
  else if k = 1 then (if a = x then [] else [([(a : Int), x], [(x : Int), a])])
  else if k = 3 then (if a = x then [] else [([(a : Int), a], [(x : Int), x])])
  else if k = 5 then (if a = 1 ∧ 2 ≤ x ∧ x ≤ 9 then [([1, (x : Int)], [(x : Int), 0])] else []) ++ (if x = 0 ∧ 2 ≤ a ∧ a ≤ 9 then [([(a : Int), 0], [1, (a : Int)])] else [])
  else jumpP k a x b
def rowP (k b a m : Nat) : List (List Int × List Int) := ((List.range m).map (cellP k b a)).flatten
def wrP (k b m : Nat) : List (List Int × List Int) := ((List.range m).map fun a => rowP k b a b).flatten
theorem rowP_step (k b a m : Nat) : rowP k b a (m + 1) = rowP k b a m ++ cellP k b a m := by unfold rowP; rw [List.range_succ, List.map_append, List.flatten_append]; simp
theorem wrP_step (k b m : Nat) : wrP k b (m + 1) = wrP k b m ++ rowP k b m b := by unfold wrP; rw [List.range_succ, List.map_append, List.flatten_append]; simp
theorem jumpP_yes {k a x m : Nat} (h : a ≠ m) : jumpP k a x (m + 1) = jumpP k a x m ++ [if k = 2 then ([(a : Int), x, m], [(m : Int), x, a]) else ([(a : Int), x, a], [(m : Int), x, m])] := by
  unfold jumpP; rw [List.range_succ, List.filter_append, List.map_append]; simp [List.filter, h]
theorem jumpP_no {k a x m : Nat} (h : a = m) : jumpP k a x (m + 1) = jumpP k a x m := by
  unfold jumpP; rw [List.range_succ, List.filter_append, List.map_append]; simp [List.filter, h]
/-- two rows, as a list of pairs -/
structure Prs (w W : World) (a : Option Addr) (n c : Nat) (a' : Option Addr) (c' : Nat) (P : List (List Int × List Int)) : Prop where
  t : TwoM w W a n c a' n c' (P.map Prod.fst) (P.map Prod.snd)
  len : P.length = n
theorem Prs.ext {w W W' : World} {a : Option Addr} {n c : Nat} {a' : Option Addr} {c' : Nat} {P : List (List Int × List Int)} (h : Prs w W a n c a' c' P) (hx : Ext W W') : Prs w W' a n c a' c' P := ⟨h.t.ext hx, h.len⟩
theorem Prs.snoc {w W : World} {a : Option Addr} {n c : Nat} {a' : Option Addr} {c' : Nat} {P : List (List Int × List Int)} {r r' : List Int} (h : TwoM w W a (n + 1) c a' (n + 1) c' (P.map Prod.fst ++ [r]) (P.map Prod.snd ++ [r'])) (hl : P.length = n) : Prs w W a (n + 1) c a' c' (P ++ [(r, r')]) :=
  ⟨by rw [List.map_append, List.map_append]; exact h, by simp [hl]⟩
def RetPrs (P : List (List Int × List Int)) (w : World) (e : Ending) (w' : World) : Prop := ∃ a c a' c', e = .returned (.tuple #[.slice a P.length c, .slice a' P.length c']) ∧ Prs w w' a P.length c a' c' P
theorem two_start (w : World) : TwoM w ((w.alloc (.cells #[] 25)).alloc (.cells #[] 25)) (some ⟨w.heap.size, 0, none⟩) 0 0 (some ⟨w.heap.size + 1, 0, none⟩) 0 0 [] [] := by
  have hx : Ext w (w.alloc (.cells #[] 25)) := (Ext.refl w).alloc _
  have hs : (w.alloc (.cells #[] 25)).heap.size = w.heap.size + 1 := by simp
  have h2 := (OwnMat.lit0 (w.alloc (.cells #[] 25)) 25 2).mono hx.le
  rw [hs] at h2
  exact ⟨(OwnMat.lit0 w _ _).ext ((Ext.refl _).alloc _), h2, fun g g' e e' => by cases e; cases e'; simp, hx.alloc _⟩
theorem int_ne {a x : Nat} (h : a ≠ x) : (a : Int) ≠ (x : Int) := by omega
set_option maxHeartbeats 4000000 in
theorem spec_wrong0 (b : Nat) (hb2 : 2 ≤ b) (hb : b ≤ 36) (w : World) : Calls Tryz.prog 89 #[.int .i64 b, .int .i64 0] w (RetPrs (wrP 0 b b) w) := by
  have H0 := Lib.hid (two_start w)
  go_enter Tryz.func89, Tryz.ntmps89
  go_wp2_with fail
  go_loopw [6, 7, 8] (fun u6 u7 u8 wr => ∃ (a n : Nat) (P : List (List Int × List Int)) (a1 : Option Addr) (c1 : Nat) (a2 : Option Addr) (c2 : Nat), u6 = .slice a1 n c1 ∧ u7 = .slice a2 n c2 ∧ u8 = .int .i64 a ∧ a ≤ b ∧ Hid (P = wrP 0 b a) ∧ n ≤ a * 2000 ∧ Hid (Prs w wr a1 n c1 a2 c2 P)) (fun _ _ u8 _ => b - (intOf u8).toNat)
  case atStart => exact ⟨0, 0, [], _, _, _, _, rfl, rfl, rfl, Nat.zero_le _, rfl, by omega, H0.out, rfl⟩
  case round =>
    clear H0
    obtain ⟨a, n, P, a1, c1, a2, c2, rfl, rfl, rfl, ha, HP, hn, HT⟩ := hrel
    by_cases hlt : a < b
    · go_wp2_with fail
      go_loopw [6, 7, 9] (fun u6 u7 u9 wr => ∃ (x m : Nat) (P' : List (List Int × List Int)) (a1' : Option Addr) (c1' : Nat) (a2' : Option Addr) (c2' : Nat), u6 = .slice a1' m c1' ∧ u7 = .slice a2' m c2' ∧ u9 = .int .i64 x ∧ x ≤ b ∧ Hid (P' = P ++ rowP 0 b a x) ∧ m ≤ n + x * 50 ∧ Hid (Prs w wr a1' m c1' a2' c2' P')) (fun _ _ u9 _ => b - (intOf u9).toNat)
      case atStart => exact ⟨0, n, P, _, _, _, _, rfl, rfl, rfl, Nat.zero_le _, (List.append_nil P).symm, by omega, HT.out⟩
      case round =>
        clear HT
        obtain ⟨x, m, P', a1', c1', a2', c2', rfl, rfl, rfl, hxb, HP', hm, HT⟩ := hrel
        by_cases hlx : x < b
        · have HS := Lib.hid (rowP_step 0 b a x)
          by_cases hax : a = x
          · subst hax
            have HC := Lib.hid (show cellP 0 b a a = [] by simp [cellP])
            go_wp2_with fail
            exact ⟨⟨a + 1, m, P', a1', c1', a2', c2', rfl, rfl, by go_num, by omega, by rw [Hid, HS.out, HC.out, List.append_nil]; exact HP'.out, by omega, HT.out⟩, by simp [intOf]; omega⟩
          · have HC := Lib.hid (show cellP 0 b a x = [([(a : Int)], [(x : Int)])] by simp [cellP, hax])
            have hai : (a : Int) ≠ (x : Int) := int_ne hax
            have hlen := HT.out.len
            go_wp2_with (first
              | (at_builtin; refine law_two w a1' m c1' a2' m c2' _ _ wr HT.out.t [(a : Int)] _ rfl (by simp) rfl _ _ rfl _ rfl rfl rfl (by omega) ?_; intro ad cc w5 ht5; have HT5 := Lib.hid ht5; clear ht5)
              | (at_builtin; refine law_two w a2' m c2' ad (m + 1) cc _ _ w5 HT5.out.flip [(x : Int)] _ rfl (by simp) rfl _ _ rfl _ rfl rfl rfl (by omega) ?_; intro ad6 cc6 w6 ht6; have HT6 := Lib.hid ht6.flip; clear ht6))
            exact ⟨⟨x + 1, m + 1, P' ++ [([(a : Int)], [(x : Int)])], ad, cc, ad6, cc6, rfl, rfl, by go_num, by omega, by rw [Hid, HS.out, HC.out, HP'.out, List.append_assoc], by omega, Prs.snoc HT6.out hlen⟩, by simp [intOf]; omega⟩
        · obtain rfl : x = b := by omega
          go_wp2_with fail
          exact ⟨⟨a + 1, m, P', a1', c1', a2', c2', rfl, rfl, by go_num, by omega, by rw [Hid, wrP_step, HP'.out, HP.out], by omega, HT.out⟩, by simp [intOf]; omega⟩
    · obtain rfl : a = b := by omega
      go_wp2_with fail
      go_ret2
      have h := HT.out
      have e := h.len
      rw [HP.out] at h e
      subst e
      exact ⟨a1, c1, a2, c2, rfl, h⟩
set_option maxHeartbeats 4000000 in
theorem spec_wrong1 (b : Nat) (hb2 : 2 ≤ b) (hb : b ≤ 36) (w : World) : Calls Tryz.prog 89 #[.int .i64 b, .int .i64 1] w (RetPrs (wrP 1 b b) w) := by
  have H0 := Lib.hid (two_start w)
  go_enter Tryz.func89, Tryz.ntmps89
  go_wp2_with fail
  go_loopw [6, 7, 8] (fun u6 u7 u8 wr => ∃ (a n : Nat) (P : List (List Int × List Int)) (a1 : Option Addr) (c1 : Nat) (a2 : Option Addr) (c2 : Nat), u6 = .slice a1 n c1 ∧ u7 = .slice a2 n c2 ∧ u8 = .int .i64 a ∧ a ≤ b ∧ Hid (P = wrP 1 b a) ∧ n ≤ a * 2000 ∧ Hid (Prs w wr a1 n c1 a2 c2 P)) (fun _ _ u8 _ => b - (intOf u8).toNat)
  case atStart => exact ⟨0, 0, [], _, _, _, _, rfl, rfl, rfl, Nat.zero_le _, rfl, by omega, H0.out, rfl⟩
  case round =>
    clear H0
    obtain ⟨a, n, P, a1, c1, a2, c2, rfl, rfl, rfl, ha, HP, hn, HT⟩ := hrel
    by_cases hlt : a < b
    · go_wp2_with fail
      go_loopw [6, 7, 9] (fun u6 u7 u9 wr => ∃ (x m : Nat) (P' : List (List Int × List Int)) (a1' : Option Addr) (c1' : Nat) (a2' : Option Addr) (c2' : Nat), u6 = .slice a1' m c1' ∧ u7 = .slice a2' m c2' ∧ u9 = .int .i64 x ∧ x ≤ b ∧ Hid (P' = P ++ rowP 1 b a x) ∧ m ≤ n + x * 50 ∧ Hid (Prs w wr a1' m c1' a2' c2' P')) (fun _ _ u9 _ => b - (intOf u9).toNat)
      case atStart => exact ⟨0, n, P, _, _, _, _, rfl, rfl, rfl, Nat.zero_le _, (List.append_nil P).symm, by omega, HT.out⟩
      case round =>
        clear HT
        obtain ⟨x, m, P', a1', c1', a2', c2', rfl, rfl, rfl, hxb, HP', hm, HT⟩ := hrel
        by_cases hlx : x < b
        · have HS := Lib.hid (rowP_step 1 b a x)
          by_cases hax : a = x
          · subst hax
            have HC := Lib.hid (show cellP 1 b a a = [] by simp [cellP])
            go_wp2_with fail
            exact ⟨⟨a + 1, m, P', a1', c1', a2', c2', rfl, rfl, by go_num, by omega, by rw [Hid, HS.out, HC.out, List.append_nil]; exact HP'.out, by omega, HT.out⟩, by simp [intOf]; omega⟩
          · have HC := Lib.hid (show cellP 1 b a x = [([(a : Int), x], [(x : Int), a])] by simp [cellP, hax])
            have hai : (a : Int) ≠ (x : Int) := int_ne hax
            have hlen := HT.out.len
            go_wp2_with (first
              | (at_builtin; refine law_two w a1' m c1' a2' m c2' _ _ wr HT.out.t [(a : Int), x] _ rfl (by simp) rfl _ _ rfl _ rfl rfl rfl (by omega) ?_; intro ad cc w5 ht5; have HT5 := Lib.hid ht5; clear ht5)
              | (at_builtin; refine law_two w a2' m c2' ad (m + 1) cc _ _ w5 HT5.out.flip [(x : Int), a] _ rfl (by simp) rfl _ _ rfl _ rfl rfl rfl (by omega) ?_; intro ad6 cc6 w6 ht6; have HT6 := Lib.hid ht6.flip; clear ht6))
            exact ⟨⟨x + 1, m + 1, P' ++ [([(a : Int), x], [(x : Int), a])], ad, cc, ad6, cc6, rfl, rfl, by go_num, by omega, by rw [Hid, HS.out, HC.out, HP'.out, List.append_assoc], by omega, Prs.snoc HT6.out hlen⟩, by simp [intOf]; omega⟩
        · obtain rfl : x = b := by omega
          go_wp2_with fail
          exact ⟨⟨a + 1, m, P', a1', c1', a2', c2', rfl, rfl, by go_num, by omega, by rw [Hid, wrP_step, HP'.out, HP.out], by omega, HT.out⟩, by simp [intOf]; omega⟩
    · obtain rfl : a = b := by omega
      go_wp2_with fail
      go_ret2
      have h := HT.out
      have e := h.len
      rw [HP.out] at h e
      subst e
      exact ⟨a1, c1, a2, c2, rfl, h⟩
set_option maxHeartbeats 4000000 in
theorem spec_wrong3 (b : Nat) (hb2 : 2 ≤ b) (hb : b ≤ 36) (w : World) : Calls Tryz.prog 89 #[.int .i64 b, .int .i64 3] w (RetPrs (wrP 3 b b) w) := by
  have H0 := Lib.hid (two_start w)
  go_enter Tryz.func89, Tryz.ntmps89
  go_wp2_with fail
  go_loopw [6, 7, 8] (fun u6 u7 u8 wr => ∃ (a n : Nat) (P : List (List Int × List Int)) (a1 : Option Addr) (c1 : Nat) (a2 : Option Addr) (c2 : Nat), u6 = .slice a1 n c1 ∧ u7 = .slice a2 n c2 ∧ u8 = .int .i64 a ∧ a ≤ b ∧ Hid (P = wrP 3 b a) ∧ n ≤ a * 2000 ∧ Hid (Prs w wr a1 n c1 a2 c2 P)) (fun _ _ u8 _ => b - (intOf u8).toNat)
  case atStart => exact ⟨0, 0, [], _, _, _, _, rfl, rfl, rfl, Nat.zero_le _, rfl, by omega, H0.out, rfl⟩
  case round =>
    clear H0
    obtain ⟨a, n, P, a1, c1, a2, c2, rfl, rfl, rfl, ha, HP, hn, HT⟩ := hrel
    by_cases hlt : a < b
    · go_wp2_with fail
      go_loopw [6, 7, 9] (fun u6 u7 u9 wr => ∃ (x m : Nat) (P' : List (List Int × List Int)) (a1' : Option Addr) (c1' : Nat) (a2' : Option Addr) (c2' : Nat), u6 = .slice a1' m c1' ∧ u7 = .slice a2' m c2' ∧ u9 = .int .i64 x ∧ x ≤ b ∧ Hid (P' = P ++ rowP 3 b a x) ∧ m ≤ n + x * 50 ∧ Hid (Prs w wr a1' m c1' a2' c2' P')) (fun _ _ u9 _ => b - (intOf u9).toNat)
      case atStart => exact ⟨0, n, P, _, _, _, _, rfl, rfl, rfl, Nat.zero_le _, (List.append_nil P).symm, by omega, HT.out⟩
      case round =>
        clear HT
        obtain ⟨x, m, P', a1', c1', a2', c2', rfl, rfl, rfl, hxb, HP', hm, HT⟩ := hrel
        by_cases hlx : x < b
        · have HS := Lib.hid (rowP_step 3 b a x)
          by_cases hax : a = x
          · subst hax
            have HC := Lib.hid (show cellP 3 b a a = [] by simp [cellP])
            go_wp2_with fail
            exact ⟨⟨a + 1, m, P', a1', c1', a2', c2', rfl, rfl, by go_num, by omega, by rw [Hid, HS.out, HC.out, List.append_nil]; exact HP'.out, by omega, HT.out⟩, by simp [intOf]; omega⟩
          · have HC := Lib.hid (show cellP 3 b a x = [([(a : Int), a], [(x : Int), x])] by simp [cellP, hax])
            have hai : (a : Int) ≠ (x : Int) := int_ne hax
            have hlen := HT.out.len
            go_wp2_with (first
              | (at_builtin; refine law_two w a1' m c1' a2' m c2' _ _ wr HT.out.t [(a : Int), a] _ rfl (by simp) rfl _ _ rfl _ rfl rfl rfl (by omega) ?_; intro ad cc w5 ht5; have HT5 := Lib.hid ht5; clear ht5)
              | (at_builtin; refine law_two w a2' m c2' ad (m + 1) cc _ _ w5 HT5.out.flip [(x : Int), x] _ rfl (by simp) rfl _ _ rfl _ rfl rfl rfl (by omega) ?_; intro ad6 cc6 w6 ht6; have HT6 := Lib.hid ht6.flip; clear ht6))
            exact ⟨⟨x + 1, m + 1, P' ++ [([(a : Int), a], [(x : Int), x])], ad, cc, ad6, cc6, rfl, rfl, by go_num, by omega, by rw [Hid, HS.out, HC.out, HP'.out, List.append_assoc], by omega, Prs.snoc HT6.out hlen⟩, by simp [intOf]; omega⟩
        · obtain rfl : x = b := by omega
          go_wp2_with fail
          exact ⟨⟨a + 1, m, P', a1', c1', a2', c2', rfl, rfl, by go_num, by omega, by rw [Hid, wrP_step, HP'.out, HP.out], by omega, HT.out⟩, by simp [intOf]; omega⟩
    · obtain rfl : a = b := by omega
      go_wp2_with fail
      go_ret2
      have h := HT.out
      have e := h.len
      rw [HP.out] at h e
      subst e
      exact ⟨a1, c1, a2, c2, rfl, h⟩
end Go.Proofs.YtbcfbkhbangeoaaGreat

/- Walks: spec.l02Wrong, phonetic errors. -/
namespace Go.Proofs.YtbcfbkhbangeoaaGreat
set_option maxRecDepth 100000
open Go.RowKit

theorem phon_no {b a x : Nat} (h1 : ¬ (a = 1 ∧ 2 ≤ x ∧ x ≤ 9)) (h2 : ¬ (x = 0 ∧ 2 ≤ a ∧ a ≤ 9)) : cellP 5 b a x = [] := by
  simp only [cellP, if_neg h1, if_neg h2]; rfl
theorem phon_1 {b a x : Nat} (h1 : a = 1) (h2 : 2 ≤ x) (h9 : x ≤ 9) : cellP 5 b a x = [([1, (x : Int)], [(x : Int), 0])] := by
  simp only [cellP, if_pos (show a = 1 ∧ 2 ≤ x ∧ x ≤ 9 from ⟨h1, h2, h9⟩), if_neg (show ¬ (x = 0 ∧ 2 ≤ a ∧ a ≤ 9) by omega)]; rfl
theorem phon_2 {b a x : Nat} (h1 : x = 0) (h2 : 2 ≤ a) (h9 : a ≤ 9) : cellP 5 b a x = [([(a : Int), 0], [1, (a : Int)])] := by
  simp only [cellP, if_neg (show ¬ (a = 1 ∧ 2 ≤ x ∧ x ≤ 9) by omega), if_pos (show x = 0 ∧ 2 ≤ a ∧ a ≤ 9 from ⟨h1, h2, h9⟩)]; rfl
set_option maxHeartbeats 4000000 in
theorem spec_wrong5 (b : Nat) (hb2 : 2 ≤ b) (hb : b ≤ 36) (w : World) : Calls Tryz.prog 89 #[.int .i64 b, .int .i64 5] w (RetPrs (wrP 5 b b) w) := by
  have H0 := Lib.hid (two_start w)
  go_enter Tryz.func89, Tryz.ntmps89
  go_wp2_with fail
  go_loopw [6, 7, 8] (fun u6 u7 u8 wr => ∃ (a n : Nat) (P : List (List Int × List Int)) (a1 : Option Addr) (c1 : Nat) (a2 : Option Addr) (c2 : Nat), u6 = .slice a1 n c1 ∧ u7 = .slice a2 n c2 ∧ u8 = .int .i64 a ∧ a ≤ b ∧ Hid (P = wrP 5 b a) ∧ n ≤ a * 2000 ∧ Hid (Prs w wr a1 n c1 a2 c2 P)) (fun _ _ u8 _ => b - (intOf u8).toNat)
  case atStart => exact ⟨0, 0, [], _, _, _, _, rfl, rfl, rfl, Nat.zero_le _, rfl, by omega, H0.out, rfl⟩
  case round =>
    clear H0
    obtain ⟨a, n, P, a1, c1, a2, c2, rfl, rfl, rfl, ha, HP, hn, HT⟩ := hrel
    by_cases hlt : a < b
    · go_wp2_with fail
      go_loopw [6, 7, 9] (fun u6 u7 u9 wr => ∃ (x m : Nat) (P' : List (List Int × List Int)) (a1' : Option Addr) (c1' : Nat) (a2' : Option Addr) (c2' : Nat), u6 = .slice a1' m c1' ∧ u7 = .slice a2' m c2' ∧ u9 = .int .i64 x ∧ x ≤ b ∧ Hid (P' = P ++ rowP 5 b a x) ∧ m ≤ n + x * 50 ∧ Hid (Prs w wr a1' m c1' a2' c2' P')) (fun _ _ u9 _ => b - (intOf u9).toNat)
      case atStart => exact ⟨0, n, P, _, _, _, _, rfl, rfl, rfl, Nat.zero_le _, (List.append_nil P).symm, by omega, HT.out⟩
      case round =>
        clear HT
        obtain ⟨x, m, P', a1', c1', a2', c2', rfl, rfl, rfl, hxb, HP', hm, HT⟩ := hrel
        by_cases hlx : x < b
        · have HS := Lib.hid (rowP_step 5 b a x)
          by_cases ha1 : a = 1
          · have ha1b : ((a : Int) == 1) = true := by simp [ha1]
            by_cases hx2 : 2 ≤ x
            · have hx2i : (2 : Int) ≤ x := by omega
              have hx0b : ((x : Int) == 0) = false := by simp; omega
              by_cases hx9 : x ≤ 9
              · have hx9i : (x : Int) ≤ 9 := by omega
                have HC := Lib.hid (phon_1 (b := b) (a := a) (x := x) (by omega) (by omega) (by omega))
                clear ha1
                have hlen := HT.out.len
                go_wp2_with (first
                  | (at_builtin; refine law_two w a1' m c1' a2' m c2' _ _ wr HT.out.t [1, (x : Int)] _ rfl (by simp) rfl _ _ rfl _ rfl rfl rfl (by omega) ?_; intro ad cc w5 ht5; have HT5 := Lib.hid ht5; clear ht5)
                  | (at_builtin; refine law_two w a2' m c2' ad (m + 1) cc _ _ w5 HT5.out.flip [(x : Int), 0] _ rfl (by simp) rfl _ _ rfl _ rfl rfl rfl (by omega) ?_; intro ad6 cc6 w6 ht6; have HT6 := Lib.hid ht6.flip; clear ht6))
                exact ⟨⟨x + 1, m + 1, P' ++ [([1, (x : Int)], [(x : Int), 0])], ad, cc, ad6, cc6, rfl, rfl, by go_num, by omega, by rw [Hid, HS.out, HC.out, HP'.out, List.append_assoc], by omega, Prs.snoc HT6.out hlen⟩, by simp [intOf]; omega⟩
              · have hx9i : ¬ (x : Int) ≤ 9 := by omega
                have HC := Lib.hid (phon_no (b := b) (a := a) (x := x) (by omega) (by omega))
                clear ha1
                go_wp2_with fail
                exact ⟨⟨x + 1, m, P', a1', c1', a2', c2', rfl, rfl, by go_num, by omega, by rw [Hid, HS.out, HC.out, List.append_nil]; exact HP'.out, by omega, HT.out⟩, by simp [intOf]; omega⟩
            · have hx2i : ¬ (2 : Int) ≤ x := by omega
              by_cases hx0 : x = 0
              · have hx0b : ((x : Int) == 0) = true := by simp [hx0]
                have ha2i : ¬ (2 : Int) ≤ a := by omega
                have HC := Lib.hid (phon_no (b := b) (a := a) (x := x) (by omega) (by omega))
                clear ha1 hx0
                go_wp2_with fail
                exact ⟨⟨x + 1, m, P', a1', c1', a2', c2', rfl, rfl, by go_num, by omega, by rw [Hid, HS.out, HC.out, List.append_nil]; exact HP'.out, by omega, HT.out⟩, by simp [intOf]; omega⟩
              · have hx0b : ((x : Int) == 0) = false := by simp; omega
                have HC := Lib.hid (phon_no (b := b) (a := a) (x := x) (by omega) (by omega))
                clear ha1 hx0
                go_wp2_with fail
                exact ⟨⟨x + 1, m, P', a1', c1', a2', c2', rfl, rfl, by go_num, by omega, by rw [Hid, HS.out, HC.out, List.append_nil]; exact HP'.out, by omega, HT.out⟩, by simp [intOf]; omega⟩
          · have ha1b : ((a : Int) == 1) = false := by simp; omega
            by_cases hx0 : x = 0
            · have hx0b : ((x : Int) == 0) = true := by simp [hx0]
              by_cases ha2 : 2 ≤ a
              · have ha2i : (2 : Int) ≤ a := by omega
                by_cases ha9 : a ≤ 9
                · have ha9i : (a : Int) ≤ 9 := by omega
                  have HC := Lib.hid (phon_2 (b := b) (a := a) (x := x) (by omega) (by omega) (by omega))
                  clear hx0 ha1
                  have hlen := HT.out.len
                  go_wp2_with (first
                    | (at_builtin; refine law_two w a1' m c1' a2' m c2' _ _ wr HT.out.t [(a : Int), 0] _ rfl (by simp) rfl _ _ rfl _ rfl rfl rfl (by omega) ?_; intro ad cc w5 ht5; have HT5 := Lib.hid ht5; clear ht5)
                    | (at_builtin; refine law_two w a2' m c2' ad (m + 1) cc _ _ w5 HT5.out.flip [1, (a : Int)] _ rfl (by simp) rfl _ _ rfl _ rfl rfl rfl (by omega) ?_; intro ad6 cc6 w6 ht6; have HT6 := Lib.hid ht6.flip; clear ht6))
                  exact ⟨⟨x + 1, m + 1, P' ++ [([(a : Int), 0], [1, (a : Int)])], ad, cc, ad6, cc6, rfl, rfl, by go_num, by omega, by rw [Hid, HS.out, HC.out, HP'.out, List.append_assoc], by omega, Prs.snoc HT6.out hlen⟩, by simp [intOf]; omega⟩
                · have ha9i : ¬ (a : Int) ≤ 9 := by omega
                  have HC := Lib.hid (phon_no (b := b) (a := a) (x := x) (by omega) (by omega))
                  clear hx0 ha1
                  go_wp2_with fail
                  exact ⟨⟨x + 1, m, P', a1', c1', a2', c2', rfl, rfl, by go_num, by omega, by rw [Hid, HS.out, HC.out, List.append_nil]; exact HP'.out, by omega, HT.out⟩, by simp [intOf]; omega⟩
              · have ha2i : ¬ (2 : Int) ≤ a := by omega
                have HC := Lib.hid (phon_no (b := b) (a := a) (x := x) (by omega) (by omega))
                clear hx0 ha1
                go_wp2_with fail
                exact ⟨⟨x + 1, m, P', a1', c1', a2', c2', rfl, rfl, by go_num, by omega, by rw [Hid, HS.out, HC.out, List.append_nil]; exact HP'.out, by omega, HT.out⟩, by simp [intOf]; omega⟩
            · have hx0b : ((x : Int) == 0) = false := by simp; omega
              have HC := Lib.hid (phon_no (b := b) (a := a) (x := x) (by omega) (by omega))
              clear hx0 ha1
              go_wp2_with fail
              exact ⟨⟨x + 1, m, P', a1', c1', a2', c2', rfl, rfl, by go_num, by omega, by rw [Hid, HS.out, HC.out, List.append_nil]; exact HP'.out, by omega, HT.out⟩, by simp [intOf]; omega⟩
        · obtain rfl : x = b := by omega
          go_wp2_with fail
          exact ⟨⟨a + 1, m, P', a1', c1', a2', c2', rfl, rfl, by go_num, by omega, by rw [Hid, wrP_step, HP'.out, HP.out], by omega, HT.out⟩, by simp [intOf]; omega⟩
    · obtain rfl : a = b := by omega
      go_wp2_with fail
      go_ret2
      have h := HT.out
      have e := h.len
      rw [HP.out] at h e
      subst e
      exact ⟨a1, c1, a2, c2, rfl, h⟩
end Go.Proofs.YtbcfbkhbangeoaaGreat

/- Walks: spec.l02Wrong, jumps. -/
namespace Go.Proofs.YtbcfbkhbangeoaaGreat
set_option maxRecDepth 100000
open Go.RowKit

set_option maxHeartbeats 4000000 in
theorem spec_wrong2 (b : Nat) (hb2 : 2 ≤ b) (hb : b ≤ 36) (w : World) : Calls Tryz.prog 89 #[.int .i64 b, .int .i64 2] w (RetPrs (wrP 2 b b) w) := by
  have H0 := Lib.hid (two_start w)
  go_enter Tryz.func89, Tryz.ntmps89
  go_wp2_with fail
  go_loopw [6, 7, 8] (fun u6 u7 u8 wr => ∃ (a n : Nat) (P : List (List Int × List Int)) (a1 : Option Addr) (c1 : Nat) (a2 : Option Addr) (c2 : Nat), u6 = .slice a1 n c1 ∧ u7 = .slice a2 n c2 ∧ u8 = .int .i64 a ∧ a ≤ b ∧ Hid (P = wrP 2 b a) ∧ n ≤ a * 2000 ∧ Hid (Prs w wr a1 n c1 a2 c2 P)) (fun _ _ u8 _ => b - (intOf u8).toNat)
  case atStart => exact ⟨0, 0, [], _, _, _, _, rfl, rfl, rfl, Nat.zero_le _, rfl, by omega, H0.out, rfl⟩
  case round =>
    clear H0
    obtain ⟨a, n, P, a1, c1, a2, c2, rfl, rfl, rfl, ha, HP, hn, HT⟩ := hrel
    by_cases hlt : a < b
    · go_wp2_with fail
      go_loopw [6, 7, 9] (fun u6 u7 u9 wr => ∃ (x m : Nat) (P' : List (List Int × List Int)) (a1' : Option Addr) (c1' : Nat) (a2' : Option Addr) (c2' : Nat), u6 = .slice a1' m c1' ∧ u7 = .slice a2' m c2' ∧ u9 = .int .i64 x ∧ x ≤ b ∧ Hid (P' = P ++ rowP 2 b a x) ∧ m ≤ n + x * 50 ∧ Hid (Prs w wr a1' m c1' a2' c2' P')) (fun _ _ u9 _ => b - (intOf u9).toNat)
      case atStart => exact ⟨0, n, P, _, _, _, _, rfl, rfl, rfl, Nat.zero_le _, (List.append_nil P).symm, by omega, HT.out⟩
      case round =>
        clear HT
        obtain ⟨x, m, P', a1', c1', a2', c2', rfl, rfl, rfl, hxb, HP', hm, HT⟩ := hrel
        by_cases hlx : x < b
        · have HS := Lib.hid (rowP_step 2 b a x)
          have HC := Lib.hid (show cellP 2 b a x = jumpP 2 a x b from rfl)
          go_wp2_with fail
          go_loopw [6, 7, 10] (fun u6 u7 u10 wr => ∃ (y p : Nat) (P2 : List (List Int × List Int)) (a1' : Option Addr) (c1' : Nat) (a2' : Option Addr) (c2' : Nat), u6 = .slice a1' p c1' ∧ u7 = .slice a2' p c2' ∧ u10 = .int .i64 y ∧ y ≤ b ∧ Hid (P2 = P' ++ jumpP 2 a x y) ∧ p ≤ m + y ∧ Hid (Prs w wr a1' p c1' a2' c2' P2)) (fun _ _ u10 _ => b - (intOf u10).toNat)
          case atStart => exact ⟨0, m, P', _, _, _, _, rfl, rfl, rfl, Nat.zero_le _, (List.append_nil P').symm, by omega, HT.out⟩
          case round =>
            clear HT
            obtain ⟨y, p, P2, b1, d1, b2, d2, rfl, rfl, rfl, hyb, HP2, hp, HT⟩ := hrel
            by_cases hly : y < b
            · by_cases hay : a = y
              · subst hay
                have HJ := Lib.hid (jumpP_no (k := 2) (a := a) (x := x) rfl)
                go_wp2_with fail
                exact ⟨⟨a + 1, p, P2, b1, d1, b2, d2, rfl, rfl, by go_num, by omega, by rw [Hid, HJ.out]; exact HP2.out, by omega, HT.out⟩, by simp [intOf]; omega⟩
              · have HJ := Lib.hid (jumpP_yes (k := 2) (x := x) hay)
                have hai : (a : Int) ≠ (y : Int) := int_ne hay
                have hlen := HT.out.len
                go_wp2_with (first
                  | (at_builtin; refine law_two w b1 p d1 b2 p d2 _ _ wr HT.out.t [(a : Int), x, y] _ rfl (by simp) rfl _ _ rfl _ rfl rfl rfl (by omega) ?_; intro ad cc w5 ht5; have HT5 := Lib.hid ht5; clear ht5)
                  | (at_builtin; refine law_two w b2 p d2 ad (p + 1) cc _ _ w5 HT5.out.flip [(y : Int), x, a] _ rfl (by simp) rfl _ _ rfl _ rfl rfl rfl (by omega) ?_; intro ad6 cc6 w6 ht6; have HT6 := Lib.hid ht6.flip; clear ht6))
                exact ⟨⟨y + 1, p + 1, P2 ++ [([(a : Int), x, y], [(y : Int), x, a])], ad, cc, ad6, cc6, rfl, rfl, by go_num, by omega, by rw [Hid, HJ.out, HP2.out, List.append_assoc]; rfl, by omega, Prs.snoc HT6.out hlen⟩, by simp [intOf]; omega⟩
            · obtain rfl : y = b := by omega
              go_wp2_with fail
              exact ⟨⟨x + 1, p, P2, b1, d1, b2, d2, rfl, rfl, by go_num, by omega, by rw [Hid, HS.out, HC.out, HP2.out, HP'.out, List.append_assoc], by omega, HT.out⟩, by simp [intOf]; omega⟩
        · obtain rfl : x = b := by omega
          go_wp2_with fail
          exact ⟨⟨a + 1, m, P', a1', c1', a2', c2', rfl, rfl, by go_num, by omega, by rw [Hid, wrP_step, HP'.out, HP.out], by omega, HT.out⟩, by simp [intOf]; omega⟩
    · obtain rfl : a = b := by omega
      go_wp2_with fail
      go_ret2
      have h := HT.out
      have e := h.len
      rw [HP.out] at h e
      subst e
      exact ⟨a1, c1, a2, c2, rfl, h⟩
set_option maxHeartbeats 4000000 in
theorem spec_wrong4 (b : Nat) (hb2 : 2 ≤ b) (hb : b ≤ 36) (w : World) : Calls Tryz.prog 89 #[.int .i64 b, .int .i64 4] w (RetPrs (wrP 4 b b) w) := by
  have H0 := Lib.hid (two_start w)
  go_enter Tryz.func89, Tryz.ntmps89
  go_wp2_with fail
  go_loopw [6, 7, 8] (fun u6 u7 u8 wr => ∃ (a n : Nat) (P : List (List Int × List Int)) (a1 : Option Addr) (c1 : Nat) (a2 : Option Addr) (c2 : Nat), u6 = .slice a1 n c1 ∧ u7 = .slice a2 n c2 ∧ u8 = .int .i64 a ∧ a ≤ b ∧ Hid (P = wrP 4 b a) ∧ n ≤ a * 2000 ∧ Hid (Prs w wr a1 n c1 a2 c2 P)) (fun _ _ u8 _ => b - (intOf u8).toNat)
  case atStart => exact ⟨0, 0, [], _, _, _, _, rfl, rfl, rfl, Nat.zero_le _, rfl, by omega, H0.out, rfl⟩
  case round =>
    clear H0
    obtain ⟨a, n, P, a1, c1, a2, c2, rfl, rfl, rfl, ha, HP, hn, HT⟩ := hrel
    by_cases hlt : a < b
    · go_wp2_with fail
      go_loopw [6, 7, 9] (fun u6 u7 u9 wr => ∃ (x m : Nat) (P' : List (List Int × List Int)) (a1' : Option Addr) (c1' : Nat) (a2' : Option Addr) (c2' : Nat), u6 = .slice a1' m c1' ∧ u7 = .slice a2' m c2' ∧ u9 = .int .i64 x ∧ x ≤ b ∧ Hid (P' = P ++ rowP 4 b a x) ∧ m ≤ n + x * 50 ∧ Hid (Prs w wr a1' m c1' a2' c2' P')) (fun _ _ u9 _ => b - (intOf u9).toNat)
      case atStart => exact ⟨0, n, P, _, _, _, _, rfl, rfl, rfl, Nat.zero_le _, (List.append_nil P).symm, by omega, HT.out⟩
      case round =>
        clear HT
        obtain ⟨x, m, P', a1', c1', a2', c2', rfl, rfl, rfl, hxb, HP', hm, HT⟩ := hrel
        by_cases hlx : x < b
        · have HS := Lib.hid (rowP_step 4 b a x)
          have HC := Lib.hid (show cellP 4 b a x = jumpP 4 a x b from rfl)
          go_wp2_with fail
          go_loopw [6, 7, 10] (fun u6 u7 u10 wr => ∃ (y p : Nat) (P2 : List (List Int × List Int)) (a1' : Option Addr) (c1' : Nat) (a2' : Option Addr) (c2' : Nat), u6 = .slice a1' p c1' ∧ u7 = .slice a2' p c2' ∧ u10 = .int .i64 y ∧ y ≤ b ∧ Hid (P2 = P' ++ jumpP 4 a x y) ∧ p ≤ m + y ∧ Hid (Prs w wr a1' p c1' a2' c2' P2)) (fun _ _ u10 _ => b - (intOf u10).toNat)
          case atStart => exact ⟨0, m, P', _, _, _, _, rfl, rfl, rfl, Nat.zero_le _, (List.append_nil P').symm, by omega, HT.out⟩
          case round =>
            clear HT
            obtain ⟨y, p, P2, b1, d1, b2, d2, rfl, rfl, rfl, hyb, HP2, hp, HT⟩ := hrel
            by_cases hly : y < b
            · by_cases hay : a = y
              · subst hay
                have HJ := Lib.hid (jumpP_no (k := 4) (a := a) (x := x) rfl)
                go_wp2_with fail
                exact ⟨⟨a + 1, p, P2, b1, d1, b2, d2, rfl, rfl, by go_num, by omega, by rw [Hid, HJ.out]; exact HP2.out, by omega, HT.out⟩, by simp [intOf]; omega⟩
              · have HJ := Lib.hid (jumpP_yes (k := 4) (x := x) hay)
                have hai : (a : Int) ≠ (y : Int) := int_ne hay
                have hlen := HT.out.len
                go_wp2_with (first
                  | (at_builtin; refine law_two w b1 p d1 b2 p d2 _ _ wr HT.out.t [(a : Int), x, a] _ rfl (by simp) rfl _ _ rfl _ rfl rfl rfl (by omega) ?_; intro ad cc w5 ht5; have HT5 := Lib.hid ht5; clear ht5)
                  | (at_builtin; refine law_two w b2 p d2 ad (p + 1) cc _ _ w5 HT5.out.flip [(y : Int), x, y] _ rfl (by simp) rfl _ _ rfl _ rfl rfl rfl (by omega) ?_; intro ad6 cc6 w6 ht6; have HT6 := Lib.hid ht6.flip; clear ht6))
                exact ⟨⟨y + 1, p + 1, P2 ++ [([(a : Int), x, a], [(y : Int), x, y])], ad, cc, ad6, cc6, rfl, rfl, by go_num, by omega, by rw [Hid, HJ.out, HP2.out, List.append_assoc]; rfl, by omega, Prs.snoc HT6.out hlen⟩, by simp [intOf]; omega⟩
            · obtain rfl : y = b := by omega
              go_wp2_with fail
              exact ⟨⟨x + 1, p, P2, b1, d1, b2, d2, rfl, rfl, by go_num, by omega, by rw [Hid, HS.out, HC.out, HP2.out, HP'.out, List.append_assoc], by omega, HT.out⟩, by simp [intOf]; omega⟩
        · obtain rfl : x = b := by omega
          go_wp2_with fail
          exact ⟨⟨a + 1, m, P', a1', c1', a2', c2', rfl, rfl, by go_num, by omega, by rw [Hid, wrP_step, HP'.out, HP.out], by omega, HT.out⟩, by simp [intOf]; omega⟩
    · obtain rfl : a = b := by omega
      go_wp2_with fail
      go_ret2
      have h := HT.out
      have e := h.len
      rw [HP.out] at h e
      subst e
      exact ⟨a1, c1, a2, c2, rfl, h⟩
end Go.Proofs.YtbcfbkhbangeoaaGreat

/- Plain: the reference's lists of errors are what the program makes. -/
namespace Go.Proofs.YtbcfbkhbangeoaaGreat
set_option maxRecDepth 100000
open Go.RowKit

theorem mem_wrP {k b m : Nat} {p : List Int × List Int} : p ∈ wrP k b m ↔ ∃ a, a < m ∧ ∃ x, x < b ∧ p ∈ cellP k b a x := by
  unfold wrP rowP
  constructor
  · intro h
    obtain ⟨l, hl, hp⟩ := List.mem_flatten.1 h
    obtain ⟨a, ha, rfl⟩ := List.mem_map.1 hl
    obtain ⟨l', hl', hp'⟩ := List.mem_flatten.1 hp
    obtain ⟨x, hx, rfl⟩ := List.mem_map.1 hl'
    exact ⟨a, List.mem_range.1 ha, x, List.mem_range.1 hx, hp'⟩
  · rintro ⟨a, ha, x, hx, h⟩
    exact List.mem_flatten.2 ⟨_, List.mem_map.2 ⟨a, List.mem_range.2 ha, rfl⟩, List.mem_flatten.2 ⟨_, List.mem_map.2 ⟨x, List.mem_range.2 hx, rfl⟩, h⟩⟩
theorem mem_jump {k a x m : Nat} {p : List Int × List Int} : p ∈ jumpP k a x m ↔ ∃ c : Nat, c < m ∧ a ≠ c ∧ p = if k = 2 then ([(a : Int), x, c], [(c : Int), x, a]) else ([(a : Int), x, a], [(c : Int), x, c]) := by
  unfold jumpP
  simp only [List.mem_map, List.mem_filter, List.mem_range]
  constructor
  · rintro ⟨c, ⟨h1, h2⟩, rfl⟩; exact ⟨c, h1, by simpa using h2, rfl⟩
  · rintro ⟨c, h1, h2, rfl⟩; exact ⟨c, ⟨h1, by simpa using h2⟩, rfl⟩
theorem mem_each {x0 : Int} {mk : Int → List Int} {b : Nat} {t : List Int} : t ∈ eachTo x0 mk b ↔ ∃ y : Nat, y < b ∧ (y : Int) ≠ x0 ∧ t = mk y := by
  unfold eachTo
  simp only [List.mem_map, List.mem_filter, List.mem_range]
  constructor
  · rintro ⟨c, ⟨h1, h2⟩, rfl⟩; exact ⟨c, h1, by simpa using h2, rfl⟩
  · rintro ⟨c, h1, h2, rfl⟩; exact ⟨c, ⟨h1, by simpa using h2⟩, rfl⟩
theorem nat_of {x : Int} {b : Nat} (h : 0 ≤ x ∧ x < (b : Int)) : ∃ n : Nat, n < b ∧ x = (n : Int) := ⟨x.toNat, by omega, by omega⟩
theorem len1 {f : List Int} (h : f.length = 1) : ∃ x, f = [x] := List.length_eq_one_iff.1 h
theorem len2 {f : List Int} (h : f.length = 2) : ∃ x y, f = [x, y] := by
  match f, h with
  | [x, y], _ => exact ⟨x, y, rfl⟩
theorem len3 {f : List Int} (h : f.length = 3) : ∃ x y z, f = [x, y, z] := by
  match f, h with
  | [x, y, z], _ => exact ⟨x, y, z, rfl⟩
theorem wrP_chg {k b : Nat} (hk : k ≤ 5) (h5 : k = 5 → 10 ≤ b) {f t : List Int} (hf : ∀ x ∈ f, 0 ≤ x ∧ x < (b : Int)) (hl : f.length = lenK k) : (f, t) ∈ wrP k b b ↔ t ∈ chgL k b f := by
  rw [mem_wrP]
  have h6 : k = 0 ∨ k = 1 ∨ k = 2 ∨ k = 3 ∨ k = 4 ∨ k = 5 := by omega
  rcases h6 with rfl | rfl | rfl | rfl | rfl | rfl
  · obtain ⟨x0, rfl⟩ := len1 hl
    obtain ⟨n0, h0, rfl⟩ := nat_of (hf x0 (by simp))
    simp only [chgL, if_true, mem_each]
    constructor
    · rintro ⟨a, ha, x, hx, h⟩
      unfold cellP at h
      by_cases hax : a = x
      · simp [hax] at h
      · simp [hax] at h
        exact ⟨x, hx, by simp [gi]; omega, h.2⟩
    · rintro ⟨y, hy, hne, rfl⟩
      refine ⟨n0, h0, y, hy, ?_⟩
      have : ¬ n0 = y := fun e => hne (by simp [gi, e])
      simp [cellP, this]
  · obtain ⟨x0, x1, rfl⟩ := len2 hl
    obtain ⟨n0, h0, rfl⟩ := nat_of (hf x0 (by simp))
    obtain ⟨n1, h1, rfl⟩ := nat_of (hf x1 (by simp))
    have e : chgL 1 b [(n0 : Int), n1] = if (n0 : Int) = n1 then [] else [[(n1 : Int), n0]] := rfl
    rw [e]
    constructor
    · rintro ⟨a, ha, x, hx, h⟩
      by_cases hax : a = x
      · simp [cellP, hax] at h
      · simp [cellP, hax] at h
        obtain ⟨⟨h1, h2⟩, rfl⟩ := h
        have : ¬ ((n0 : Int) = n1) := by omega
        simp [h1, h2]
        omega
    · intro h
      by_cases hn : (n0 : Int) = n1
      · simp [hn] at h
      · simp [hn] at h
        subst h
        have : ¬ n0 = n1 := by omega
        exact ⟨n0, h0, n1, h1, by simp [cellP, this]⟩
  · obtain ⟨x0, x1, x2, rfl⟩ := len3 hl
    obtain ⟨n0, h0, rfl⟩ := nat_of (hf x0 (by simp))
    obtain ⟨n1, h1, rfl⟩ := nat_of (hf x1 (by simp))
    obtain ⟨n2, h2, rfl⟩ := nat_of (hf x2 (by simp))
    have e : chgL 2 b [(n0 : Int), n1, n2] = if (n0 : Int) = n2 then [] else [[(n2 : Int), n1, n0]] := rfl
    have ec : ∀ a x, cellP 2 b a x = jumpP 2 a x b := fun _ _ => rfl
    simp only [e, ec, mem_jump]
    constructor
    · rintro ⟨a, ha, x, hx, c, hc, hac, h⟩
      simp at h
      obtain ⟨⟨g1, g2, g3⟩, rfl⟩ := h
      have : ¬ ((n0 : Int) = n2) := by omega
      simp [g1, g2, g3]
      omega
    · intro h
      by_cases hn : (n0 : Int) = n2
      · simp [hn] at h
      · simp [hn] at h
        subst h
        exact ⟨n0, h0, n1, h1, n2, h2, by omega, by simp⟩
  · obtain ⟨x0, x1, rfl⟩ := len2 hl
    obtain ⟨n0, h0, rfl⟩ := nat_of (hf x0 (by simp))
    obtain ⟨n1, h1, rfl⟩ := nat_of (hf x1 (by simp))
    have e : chgL 3 b [(n0 : Int), n1] = if (n0 : Int) = n1 then eachTo n0 (fun b => [b, b]) b else [] := rfl
    rw [e]
    constructor
    · rintro ⟨a, ha, x, hx, h⟩
      by_cases hax : a = x
      · simp [cellP, hax] at h
      · simp [cellP, hax] at h
        obtain ⟨⟨h1, h2⟩, rfl⟩ := h
        have : (n0 : Int) = n1 := by omega
        rw [if_pos this, mem_each]
        exact ⟨x, hx, by omega, rfl⟩
    · intro h
      by_cases hn : (n0 : Int) = n1
      · rw [if_pos hn, mem_each] at h
        obtain ⟨y, hy, hne, rfl⟩ := h
        have : ¬ n0 = y := by omega
        exact ⟨n0, h0, y, hy, by simp [cellP, this]; omega⟩
      · simp [hn] at h
  · obtain ⟨x0, x1, x2, rfl⟩ := len3 hl
    obtain ⟨n0, h0, rfl⟩ := nat_of (hf x0 (by simp))
    obtain ⟨n1, h1, rfl⟩ := nat_of (hf x1 (by simp))
    obtain ⟨n2, h2, rfl⟩ := nat_of (hf x2 (by simp))
    have e : chgL 4 b [(n0 : Int), n1, n2] = if (n0 : Int) = n2 then eachTo n0 (fun b => [b, (n1 : Int), b]) b else [] := rfl
    have ec : ∀ a x, cellP 4 b a x = jumpP 4 a x b := fun _ _ => rfl
    simp only [e, ec, mem_jump]
    constructor
    · rintro ⟨a, ha, x, hx, c, hc, hac, h⟩
      simp at h
      obtain ⟨⟨g1, g2, g3⟩, rfl⟩ := h
      have : (n0 : Int) = n2 := by omega
      rw [if_pos this, mem_each]
      exact ⟨c, hc, by omega, by rw [g2]⟩
    · intro h
      by_cases hn : (n0 : Int) = n2
      · rw [if_pos hn, mem_each] at h
        obtain ⟨y, hy, hne, rfl⟩ := h
        exact ⟨n0, h0, n1, h1, y, hy, by omega, by simp; omega⟩
      · simp [hn] at h
  · obtain ⟨x0, x1, rfl⟩ := len2 hl
    obtain ⟨n0, h0, rfl⟩ := nat_of (hf x0 (by simp))
    obtain ⟨n1, h1, rfl⟩ := nat_of (hf x1 (by simp))
    have hb := h5 rfl
    have e : chgL 5 b [(n0 : Int), n1] = if (n1 : Int) = 0 ∧ 2 ≤ (n0 : Int) ∧ (n0 : Int) ≤ 9 then [[1, (n0 : Int)]] else if (n0 : Int) = 1 ∧ 2 ≤ (n1 : Int) ∧ (n1 : Int) ≤ 9 then [[(n1 : Int), 0]] else [] := rfl
    have ec : ∀ a x, cellP 5 b a x = (if a = 1 ∧ 2 ≤ x ∧ x ≤ 9 then [([1, (x : Int)], [(x : Int), 0])] else []) ++ (if x = 0 ∧ 2 ≤ a ∧ a ≤ 9 then [([(a : Int), 0], [1, (a : Int)])] else []) := fun _ _ => rfl
    rw [e]
    simp only [ec]
    constructor
    · rintro ⟨a, ha, x, hx, h⟩
      rcases List.mem_append.1 h with h | h
      · split at h
        · rename_i hc
          simp at h
          obtain ⟨⟨g1, g2⟩, rfl⟩ := h
          rw [if_neg (by omega), if_pos (by omega), List.mem_singleton, g2]
        · cases h
      · split at h
        · rename_i hc
          simp at h
          obtain ⟨⟨g1, g2⟩, rfl⟩ := h
          rw [if_pos (by omega), List.mem_singleton, g1]
        · cases h
    · intro h
      refine ⟨n0, h0, n1, h1, ?_⟩
      rw [List.mem_append]
      split at h
      · rename_i hc
        rw [List.mem_singleton] at h; subst h
        right
        rw [if_pos (by omega)]
        have : n1 = 0 := by omega
        simp [this]
      · split at h
        · rename_i hc
          rw [List.mem_singleton] at h; subst h
          left
          rw [if_pos (by omega)]
          have : n0 = 1 := by omega
          simp [this]
        · cases h
theorem cell_in {k b a x : Nat} (hk : k ≤ 5) (h5 : k = 5 → 10 ≤ b) (ha : a < b) (hx : x < b) {p : List Int × List Int} (h : p ∈ cellP k b a x) : (∀ z ∈ p.1, 0 ≤ z ∧ z < (b : Int)) ∧ p.1.length = lenK k := by
  have h6 : k = 0 ∨ k = 1 ∨ k = 2 ∨ k = 3 ∨ k = 4 ∨ k = 5 := by omega
  have j : ∀ k, p ∈ jumpP k a x b → (∀ z ∈ p.1, 0 ≤ z ∧ z < (b : Int)) ∧ p.1.length = 3 := fun k h => by
    obtain ⟨c, hc, _, rfl⟩ := mem_jump.1 h
    by_cases e : k = 2
    · simp [e]; omega
    · simp [e]; omega
  rcases h6 with rfl | rfl | rfl | rfl | rfl | rfl
  · by_cases hax : a = x
    · simp [cellP, hax] at h
    · simp [cellP, hax] at h; subst h; simp [lenK]; omega
  · by_cases hax : a = x
    · simp [cellP, hax] at h
    · simp [cellP, hax] at h; subst h; simp [lenK]; omega
  · exact j 2 h
  · by_cases hax : a = x
    · simp [cellP, hax] at h
    · simp [cellP, hax] at h; subst h; simp [lenK]; omega
  · exact j 4 h
  · have hb := h5 rfl
    have h : p ∈ (if a = 1 ∧ 2 ≤ x ∧ x ≤ 9 then [([1, (x : Int)], [(x : Int), 0])] else []) ++ (if x = 0 ∧ 2 ≤ a ∧ a ≤ 9 then [([(a : Int), 0], [1, (a : Int)])] else []) := h
    rcases List.mem_append.1 h with h | h
    · split at h
      · rw [List.mem_singleton] at h; subst h; simp [lenK]; omega
      · cases h
    · split at h
      · rw [List.mem_singleton] at h; subst h; simp [lenK]; omega
      · cases h
theorem wrP_in {k b : Nat} (hk : k ≤ 5) (h5 : k = 5 → 10 ≤ b) {p : List Int × List Int} (h : p ∈ wrP k b b) : (∀ z ∈ p.1, 0 ≤ z ∧ z < (b : Int)) ∧ p.1.length = lenK k ∧ (∀ z ∈ p.2, 0 ≤ z ∧ z < (b : Int)) ∧ p.2.length = lenK k := by
  obtain ⟨a, ha, x, hx, hc⟩ := mem_wrP.1 h
  obtain ⟨h1, h2⟩ := cell_in hk h5 ha hx hc
  have h3 := (wrP_chg hk h5 (t := p.2) h1 h2).1 h
  have h4 : k ≤ 4 ∨ 10 ≤ b := by
    rcases Nat.lt_or_ge k 5 with h | h
    · exact Or.inl (by omega)
    · exact Or.inr (h5 (by omega))
  exact ⟨h1, h2, chg_dig h1 h2 h4 h3, chgL_len h2 h3⟩
theorem cell_len (k b a x : Nat) : (cellP k b a x).length ≤ b + 2 := by
  unfold cellP
  split
  · split <;> simp
  · split
    · split <;> simp
    · split
      · split <;> simp
      · split
        · split <;> split <;> simp
        · unfold jumpP
          rw [List.length_map]
          have := List.length_filter_le (fun (c : Nat) => !decide (a = c)) (List.range b)
          simp at this; omega
theorem row_len (k b a : Nat) (hb : b ≤ 36) : ∀ m, (rowP k b a m).length ≤ m * 38
  | 0 => by simp [rowP]
  | m + 1 => by
    have h1 := row_len k b a hb m
    have h2 := cell_len k b a m
    rw [rowP_step, List.length_append]; omega
theorem wrP_len (k b : Nat) (hb : b ≤ 36) : ∀ m, (wrP k b m).length ≤ m * 1368
  | 0 => by simp [wrP]
  | m + 1 => by
    have h1 := wrP_len k b hb m
    have h2 := row_len k b m hb b
    rw [wrP_step, List.length_append]; omega
end Go.Proofs.YtbcfbkhbangeoaaGreat

/- Walks: a text put into a row of the call's own, in the reference; rows of rows of texts. -/
namespace Go.Proofs.YtbcfbkhbangeoaaGreat
set_option maxRecDepth 100000
open Go.RowKit

def RetOs (B : Nat) (l : List ByteArray) (w : World) (e : Ending) (w' : World) : Prop := ∃ a c, e = .returned (.slice a l.length c) ∧ Own w' B 9 a l.length c (St l) ∧ Ext w w'
theorem RetOs.mk {B : Nat} {l : List ByteArray} {w w' : World} {a : Option Addr} {n c : Nat} (hs : Own w' B 9 a n c (St l)) (hx : Ext w w') : RetOs B l w (.returned (.slice a n c)) w' := by
  have h := hs.len; rw [St_len] at h; subst h; exact ⟨a, c, rfl, hs, hx⟩
/-- the k-th list of texts -/
def gS (l : List (List ByteArray)) (k : Nat) : List ByteArray := l.getD k []
theorem gS_lt {ll : List (List ByteArray)} {u : List ByteArray} {k : Nat} (h : k < ll.length) : gS (ll ++ [u]) k = gS ll k := by simp [gS, List.getElem?_append_left h]
theorem gS_last {ll : List (List ByteArray)} {u : List ByteArray} {k : Nat} (h : ll.length = k) : gS (ll ++ [u]) k = u := by subst h; simp [gS]
/-- a row of the call's own whose slices hold lists of texts, all at B or behind -/
structure OwnTx (w : World) (B : Nat) (a : Option Addr) (n c : Nat) (ll : List (List ByteArray)) : Prop where
  len : ll.length = n
  rows : ∃ vs, Own w B 35 a n c vs ∧ ∀ k, k < n → ∃ a' n' c', gv vs k = .slice a' n' c' ∧ Own w B 9 a' n' c' (St (gS ll k))
theorem OwnTx.ext {w w' : World} {B : Nat} {a : Option Addr} {n c : Nat} {ll : List (List ByteArray)} (h : OwnTx w B a n c ll) (hx : Ext w w') : OwnTx w' B a n c ll :=
  ⟨h.len, let ⟨vs, h1, h2⟩ := h.rows; ⟨vs, h1.ext hx, fun k hk => let ⟨a', n', c', h3, h4⟩ := h2 k hk; ⟨a', n', c', h3, h4.ext hx⟩⟩⟩
theorem OwnTx.lit0 (w : World) : OwnTx (w.alloc (.cells #[] 35)) w.heap.size (some ⟨w.heap.size, 0, none⟩) 0 0 [] := ⟨rfl, [], Own.lit0 w _, fun k hk => by omega⟩
theorem OwnTx.mono {w : World} {B B' : Nat} {a : Option Addr} {n c : Nat} {ll : List (List ByteArray)} (h : OwnTx w B a n c ll) (hB : B' ≤ B) : OwnTx w B' a n c ll :=
  ⟨h.len, let ⟨vs, h1, h2⟩ := h.rows; ⟨vs, h1.mono hB, fun k hk => let ⟨a', n', c', h3, h4⟩ := h2 k hk; ⟨a', n', c', h3, h4.mono hB⟩⟩⟩
theorem tx_ne : 9 ≠ 35 := by decide
theorem OwnTx.push {w w' : World} {B : Nat} {a a1 a2 : Option Addr} {n c n1 c1 c2 : Nat} {ll : List (List ByteArray)} {l : List ByteArray} {vs : List Value} (hl : ll.length = n)
    (hps : ∀ k, k < n → ∃ a' n' c', gv vs k = .slice a' n' c' ∧ Own w B 9 a' n' c' (St (gS ll k))) (ho : Own w B 35 a n c vs) (hnew : Own w B 9 a1 n1 c1 (St l)) (ho' : Own w' B 35 a2 (n + 1) c2 (vs ++ [.slice a1 n1 c1]))
    (hg : w.grownBy w' (Value.slice a n c).ownBlock) : OwnTx w' B a2 (n + 1) c2 (ll ++ [l]) := by
  refine ⟨by simp [hl], vs ++ [.slice a1 n1 c1], ho', fun k hk => ?_⟩
  have hvl := ho.len
  by_cases h : k < n
  · obtain ⟨a', n', c', h1, h2⟩ := hps k h
    exact ⟨a', n', c', (gv_lt (by omega)).trans h1, by rw [gS_lt (by omega)]; exact h2.grownT ho hg tx_ne⟩
  · obtain rfl : k = n := by omega
    exact ⟨a1, n1, c1, gv_last hvl, by rw [gS_last hl]; exact hnew.grownT ho hg tx_ne⟩
theorem info_txt : (Tryz.prog.info? 35).map (fun i => (i.zero, i.size, i.bytes)) = some (some (.slice none 0 0), 1, 24) := by kernel_rfl
theorem cell_txt : Tryz.prog.cellsOf 35 = 1 := by kernel_rfl
set_option maxHeartbeats 4000000 in
theorem spec_putO (B : Nat) (a : Option Addr) (n c : Nat) (l : List ByteArray) (t : ByteArray) (w : World) (hO : Own w B 9 a n c (St l)) (hn : n ≤ 1048576) (hB : B ≤ w.heap.size) :
    Calls Tryz.prog 92 #[.slice a n c, .string t] w (RetOs B (putS l t) w) := by
  have hv : Strs w a n c l := hO.sl
  have HOw := Lib.hid hO
  have HBw := Lib.hid hB
  have HV := Lib.hid hv
  have HL := Lib.hid hv.len
  have HPut := Lib.hid (fun k (h1 : k ≤ n) (h2 : ∀ j, j < k → lessS (gs l j) t = true) (h3 : k < n → lessS (gs l k) t = false) => putS_at (l := l) (t := t) (k := k) (by rw [hv.len]; exact h1) h2 (by rw [hv.len]; exact h3))
  rw [HL.out] at HPut
  obtain ⟨y, hy⟩ : ∃ y, y = putS l t := ⟨_, rfl⟩
  rw [← hy] at HPut ⊢
  obtain ⟨b, off, hix, hcell⟩ := hv.ix (P := Tryz.prog) 35 9 und_strs cell_str
  clear hv hy hO hB
  have hxw : Ext w w := Ext.refl w
  go_enter Tryz.func92, Tryz.ntmps92
  go_wp2
  go_loop [5] (fun i => ∃ k : Nat, k ≤ n ∧ i = .int .i64 k ∧ ∀ j, j < k → lessS (gs l j) t = true) (fun i => n - (intOf i).toNat)
  case atStart => exact ⟨0, Nat.zero_le _, rfl, fun j hj => by omega⟩
  case round =>
    obtain ⟨k, hk, rfl, hp⟩ := hrel
    have Hhp := Lib.hid hp; clear hp
    by_cases hlt : k < n
    · cases hls : Op.bytesLess (gs l k).toList t.toList
      · by_cases heq : gs l k = t
        · have HX := Lib.hid ((HPut.out k hk Hhp.out (fun _ => hls)).trans (if_pos ⟨hlt, heq⟩))
          have he : ((gs l k).toList == t.toList) = true := by rw [heq]; simp
          clear heq
          go_wp2
          go_ret
          rw [HX.out]
          exact RetOs.mk HOw.out hxw
        · have HX := Lib.hid ((HPut.out k hk Hhp.out (fun _ => hls)).trans (if_neg (fun h => heq h.2)))
          have he : ((gs l k).toList == t.toList) = false := by
            rw [Bool.eq_false_iff]; intro h; exact heq (bs_iff.1 h)
          clear heq
          obtain ⟨a1, hs1, hp1⟩ := HV.out.pre (P := Tryz.prog) 35 9 und_strs cell_str elem_strs k hk
          obtain ⟨a2, hs2, hp2⟩ := HV.out.suf (P := Tryz.prog) 35 9 und_strs cell_str elem_strs k hk
          have Hhp1 := Lib.hid hp1; clear hp1; have Hhp2 := Lib.hid hp2; clear hp2
          go_wp2_with (first
            | (at_builtin; refine law_appendsO _ rfl _ _ 35 rfl 9 (.string .empty) 16 und_strs info_str rfl w.heap.size _ 0 0 [] a1 k c (St (l.take k)) (oneTs _) rfl rfl (Own.lit0 w _) (Strs.ext Hhp1.out (by repeat (first | (with_reducible exact Ext.refl _) | (with_reducible assumption) | (with_reducible refine Ext.drewN ?_ _) | (with_reducible refine Ext.drew ?_) | (with_reducible refine Ext.alloc ?_ _) | ((with_reducible refine Ext.setCell ?_ ?_ _); rotate_left; focus (first | (simp; done) | (simp; omega) | omega)) | (with_reducible refine Ext.trans ?_ (by with_reducible assumption))))) (by simp) (by omega) (by omega) ?_; intro ad1 cc1 w1 ho1 hb1 hg1; rw [List.nil_append, Nat.zero_add] at ho1; have hxw1 : Ext w w1 := Ext.below (show Ext w _ from (by repeat (first | (with_reducible exact Ext.refl _) | (with_reducible assumption) | (with_reducible refine Ext.drewN ?_ _) | (with_reducible refine Ext.drew ?_) | (with_reducible refine Ext.alloc ?_ _) | ((with_reducible refine Ext.setCell ?_ ?_ _); rotate_left; focus (first | (simp; done) | (simp; omega) | omega)) | (with_reducible refine Ext.trans ?_ (by with_reducible assumption))))) hb1; have HO1 := Lib.hid ho1; clear ho1 hg1; rw [Nat.zero_add])
            | (at_builtin; refine law_append1 _ rfl _ _ 35 rfl 9 (.string .empty) 16 und_strs info_str rfl w.heap.size ad1 k cc1 (St (l.take k)) (.string t) rfl rfl rfl HO1.out hxw1.le (by omega) (by omega) ?_; intro ad2 cc2 w2 ho2 hb2 hg2; have hxw2 : Ext w w2 := Ext.below hxw1 hb2; have HO2 := Lib.hid ho2; clear ho2 hg2)
            | (at_builtin; refine law_appendsO _ rfl _ _ 35 rfl 9 (.string .empty) 16 und_strs info_str rfl w.heap.size ad2 (k + 1) cc2 (St (l.take k) ++ [.string t]) a2 (n - k) (c - k) (St (l.drop k)) (oneTs _) rfl rfl HO2.out (Strs.ext Hhp2.out (by repeat (first | (with_reducible exact Ext.refl _) | (with_reducible assumption) | (with_reducible refine Ext.drewN ?_ _) | (with_reducible refine Ext.drew ?_) | (with_reducible refine Ext.alloc ?_ _) | ((with_reducible refine Ext.setCell ?_ ?_ _); rotate_left; focus (first | (simp; done) | (simp; omega) | omega)) | (with_reducible refine Ext.trans ?_ (by with_reducible assumption))))) hxw2.le (by omega) (by omega) ?_; intro ad3 cc3 w3 ho3 hb3 hg3; have hxw3 : Ext w w3 := Ext.below hxw2 hb3; have HO3 := Lib.hid ho3; clear ho3 hg3))
          go_ret
          rw [HX.out]
          exact RetOs.mk (n := k + 1 + (n - k)) (by have h := HO3.out.mono HBw.out; rw [show St (l.take k) ++ [Value.string t] ++ St (l.drop k) = St (l.take k ++ t :: l.drop k) by simp [St]] at h; exact h) hxw3
      · have HX := Lib.hid (show ∀ j, j < k + 1 → lessS (gs l j) t = true from fun j hj => by
          by_cases e : j < k
          · exact Hhp.out j e
          · obtain rfl : j = k := by omega
            exact hls)
        go_wp2
        exact ⟨⟨k + 1, by omega, by go_num, HX.out⟩, by simp [intOf]; omega⟩
    · obtain rfl : k = n := by omega
      have HX := Lib.hid ((HPut.out k hk Hhp.out (fun h => by omega)).trans (if_neg (fun h => by omega)))
      obtain ⟨a1, hs1, hp1⟩ := HV.out.pre (P := Tryz.prog) 35 9 und_strs cell_str elem_strs k hk
      obtain ⟨a2, hs2, hp2⟩ := HV.out.suf (P := Tryz.prog) 35 9 und_strs cell_str elem_strs k hk
      simp only [Nat.sub_self] at hs2
      rw [Nat.sub_self] at hp2
      have Hhp1 := Lib.hid hp1; clear hp1; have Hhp2 := Lib.hid hp2; clear hp2
      go_wp2_with (first
        | (at_builtin; refine law_appendsO _ rfl _ _ 35 rfl 9 (.string .empty) 16 und_strs info_str rfl w.heap.size _ 0 0 [] a1 k c (St (l.take k)) (oneTs _) rfl rfl (Own.lit0 w _) (Strs.ext Hhp1.out (by repeat (first | (with_reducible exact Ext.refl _) | (with_reducible assumption) | (with_reducible refine Ext.drewN ?_ _) | (with_reducible refine Ext.drew ?_) | (with_reducible refine Ext.alloc ?_ _) | ((with_reducible refine Ext.setCell ?_ ?_ _); rotate_left; focus (first | (simp; done) | (simp; omega) | omega)) | (with_reducible refine Ext.trans ?_ (by with_reducible assumption))))) (by simp) (by omega) (by omega) ?_; intro ad1 cc1 w1 ho1 hb1 hg1; rw [List.nil_append, Nat.zero_add] at ho1; have hxw1 : Ext w w1 := Ext.below (show Ext w _ from (by repeat (first | (with_reducible exact Ext.refl _) | (with_reducible assumption) | (with_reducible refine Ext.drewN ?_ _) | (with_reducible refine Ext.drew ?_) | (with_reducible refine Ext.alloc ?_ _) | ((with_reducible refine Ext.setCell ?_ ?_ _); rotate_left; focus (first | (simp; done) | (simp; omega) | omega)) | (with_reducible refine Ext.trans ?_ (by with_reducible assumption))))) hb1; have HO1 := Lib.hid ho1; clear ho1 hg1; rw [Nat.zero_add])
        | (at_builtin; refine law_append1 _ rfl _ _ 35 rfl 9 (.string .empty) 16 und_strs info_str rfl w.heap.size ad1 k cc1 (St (l.take k)) (.string t) rfl rfl rfl HO1.out hxw1.le (by omega) (by omega) ?_; intro ad2 cc2 w2 ho2 hb2 hg2; have hxw2 : Ext w w2 := Ext.below hxw1 hb2; have HO2 := Lib.hid ho2; clear ho2 hg2)
        | (at_builtin; refine law_appendsO _ rfl _ _ 35 rfl 9 (.string .empty) 16 und_strs info_str rfl w.heap.size ad2 (k + 1) cc2 (St (l.take k) ++ [.string t]) a2 0 (c - k) (St (l.drop k)) (oneTs _) rfl rfl HO2.out (Strs.ext Hhp2.out (by repeat (first | (with_reducible exact Ext.refl _) | (with_reducible assumption) | (with_reducible refine Ext.drewN ?_ _) | (with_reducible refine Ext.drew ?_) | (with_reducible refine Ext.alloc ?_ _) | ((with_reducible refine Ext.setCell ?_ ?_ _); rotate_left; focus (first | (simp; done) | (simp; omega) | omega)) | (with_reducible refine Ext.trans ?_ (by with_reducible assumption))))) hxw2.le (by omega) (by omega) ?_; intro ad3 cc3 w3 ho3 hb3 hg3; have hxw3 : Ext w w3 := Ext.below hxw2 hb3; have HO3 := Lib.hid ho3; clear ho3 hg3))
      go_ret
      rw [HX.out]
      exact RetOs.mk (n := k + 1 + 0) (by have h := HO3.out.mono HBw.out; rw [show St (l.take k) ++ [Value.string t] ++ St (l.drop k) = St (l.take k ++ t :: l.drop k) by simp [St]] at h; exact h) hxw3
end Go.Proofs.YtbcfbkhbangeoaaGreat

/- Walks: the words that errors of a kind make of a word, in the reference. -/
namespace Go.Proofs.YtbcfbkhbangeoaaGreat
set_option maxRecDepth 100000
open Go.RowKit

set_option maxHeartbeats 1000000 in
theorem spec_sameT (a a' : Option Addr) (n n' c c' : Nat) (l l' : List Int) (w : World) (hv : Ints w a n c l) (hv' : Ints w a' n' c' l') (hn : n ≤ 4611686018427387904) :
    Calls Tryz.prog 91 #[.slice a n c, .slice a' n' c'] w (Ret (.bool (decide (l = l'))) w) := by
  have HL := Lib.hid hv.len
  have HL' := Lib.hid hv'.len
  by_cases he : n = n'
  · subst he
    obtain ⟨b, off, hix, hcell⟩ := hv.ix (P := Tryz.prog) 25 2 und_int64s cell_int64
    obtain ⟨b', off', hix', hcell'⟩ := hv'.ix (P := Tryz.prog) 25 2 und_int64s cell_int64
    have Hhv := Lib.hid hv; clear hv; have Hhv' := Lib.hid hv'; clear hv'
    go_enter Tryz.func91, Tryz.ntmps91
    go_wp2
    go_loopw [5] (fun i wr => ∃ k : Nat, k ≤ n ∧ i = .int .i64 k ∧ l.take k = l'.take k ∧ Ext w wr) (fun i _ => n - (intOf i).toNat)
    case atStart => exact ⟨0, Nat.zero_le _, rfl, rfl, Ext.refl _⟩
    case round =>
      obtain ⟨k, hk, rfl, hp, hx⟩ := hrel
      have Hhp := Lib.hid hp; clear hp
      by_cases hlt : k < n
      · have HT := Lib.hid (take_gi (l := l) (k := k) (by rw [HL.out]; exact hlt))
        have HT' := Lib.hid (take_gi (l := l') (k := k) (by rw [HL'.out]; exact hlt))
        go_wp2
        (refine wp_region_up (by kernel_rfl) (by kernel_rfl) (by kernel_rfl) ?_; (repeat (first | (refine mix_q rfl ?_; go_big_quiet_step (fail); refine wpQuiet_nil ?_; show wpMix _ _ _ _ _ _ _) | (refine mix_s rfl ?_; go_wp2_with (fail); first | refine ⟨up_of (by repeat (first | (with_reducible exact Ext.refl _) | (with_reducible refine Ext.drewN ?_ _) | (with_reducible refine Ext.drew ?_) | (with_reducible refine Ext.alloc ?_ _) | ((with_reducible refine Ext.setCell ?_ ?_ _); rotate_left; focus (first | (simp; done) | (simp; omega) | omega)) | assumption | (with_reducible refine Ext.trans ?_ (by assumption)))), ?_⟩ | refine ⟨rfl, rfl, up_of (by repeat (first | (with_reducible exact Ext.refl _) | (with_reducible refine Ext.drewN ?_ _) | (with_reducible refine Ext.drew ?_) | (with_reducible refine Ext.alloc ?_ _) | ((with_reducible refine Ext.setCell ?_ ?_ _); rotate_left; focus (first | (simp; done) | (simp; omega) | omega)) | assumption | (with_reducible refine Ext.trans ?_ (by assumption)))), ?_⟩))); refine mix_nil ?_)
        go_wp2
        · have h1 : (gi l k != gi l' k) = true := by assumption
          go_ret
          refine ⟨rb ?_, (by repeat (first | (with_reducible exact Ext.refl _) | (with_reducible refine Ext.drewN ?_ _) | (with_reducible refine Ext.drew ?_) | (with_reducible refine Ext.alloc ?_ _) | ((with_reducible refine Ext.setCell ?_ ?_ _); rotate_left; focus (first | (simp; done) | (simp; omega) | omega)) | assumption | (with_reducible refine Ext.trans ?_ (by assumption))))⟩
          have hne : ¬ l = l' := fun h => by subst h; simp at h1
          simp [hne]
        · have h1 : (gi l k != gi l' k) = false := by assumption
          have h2 : gi l k = gi l' k := by simpa using h1
          exact ⟨⟨k + 1, by omega, by go_num, by rw [HT.out, HT'.out, Hhp.out, h2], (by repeat (first | (with_reducible exact Ext.refl _) | (with_reducible refine Ext.drewN ?_ _) | (with_reducible refine Ext.drew ?_) | (with_reducible refine Ext.alloc ?_ _) | ((with_reducible refine Ext.setCell ?_ ?_ _); rotate_left; focus (first | (simp; done) | (simp; omega) | omega)) | assumption | (with_reducible refine Ext.trans ?_ (by assumption))))⟩, by simp [intOf]; omega⟩
      · go_wp2
        go_ret
        refine ⟨rb ?_, hx⟩
        have := Hhp.out
        rw [take_full (by rw [HL.out]; omega), take_full (by rw [HL'.out]; omega)] at this
        simp [this]
  · have hne : l ≠ l' := fun h => he (by rw [← HL.out, ← HL'.out, h])
    have HN := Lib.hid hne
    have hb : ((n : Int) != (n' : Int)) = true := by simp; omega
    clear hne hv hv' he
    go_enter Tryz.func91, Tryz.ntmps91
    go_wp2
    go_ret
    exact ⟨rb (by simp [HN.out]), Ext.refl _⟩
def sizeK (k : Nat) (b : Int) : Nat := if kindB k b then lenK k else 0
theorem sizeK_yes {k : Nat} {b : Int} (h : kindB k b = true) : sizeK k b = lenK k := by unfold sizeK; rw [h]; rfl
theorem sizeK_no {k : Nat} {b : Int} (h : kindB k b = false) : sizeK k b = 0 := by unfold sizeK; rw [h]; rfl
theorem spec_l02Size (k : Nat) (hk : k ≤ 5) (b : Int) (w : World) : Calls Tryz.prog 88 #[.int .i64 b, .int .i64 k] w (Same (.int .i64 (sizeK k b)) w) := by
  have h6 : k = 0 ∨ k = 1 ∨ k = 2 ∨ k = 3 ∨ k = 4 ∨ k = 5 := by omega
  clear hk
  rcases h6 with rfl | rfl | rfl | rfl | rfl | rfl
  iterate 5
    · go_enter Tryz.func88, Tryz.ntmps88
      go_wp2
      go_ret
      exact ⟨rfl, rfl⟩
  · by_cases hb : 10 ≤ b
    · have HK := Lib.hid (show kindB 5 b = true by simp [kindB, hb])
      go_enter Tryz.func88, Tryz.ntmps88
      go_wp2
      go_ret
      exact ⟨by rw [sizeK_yes HK.out]; rfl, rfl⟩
    · have HK := Lib.hid (show kindB 5 b = false by simp [kindB, hb])
      go_enter Tryz.func88, Tryz.ntmps88
      go_wp2
      go_ret
      exact ⟨by rw [sizeK_no HK.out]; rfl, rfl⟩
theorem spec_wrongK (k : Nat) (hk : k ≤ 5) (b : Nat) (hb2 : 2 ≤ b) (hb : b ≤ 36) (w : World) : Calls Tryz.prog 89 #[.int .i64 b, .int .i64 k] w (RetPrs (wrP k b b) w) := by
  have h6 : k = 0 ∨ k = 1 ∨ k = 2 ∨ k = 3 ∨ k = 4 ∨ k = 5 := by omega
  clear hk
  rcases h6 with rfl | rfl | rfl | rfl | rfl | rfl
  · exact spec_wrong0 b hb2 hb w
  · exact spec_wrong1 b hb2 hb w
  · exact spec_wrong2 b hb2 hb w
  · exact spec_wrong3 b hb2 hb w
  · exact spec_wrong4 b hb2 hb w
  · exact spec_wrong5 b hb2 hb w
/-- the pair at a place -/
def pr (P : List (List Int × List Int)) (k : Nat) : List Int × List Int := P.getD k ([], [])
theorem pr_mem {P : List (List Int × List Int)} {k : Nat} (h : k < P.length) : pr P k ∈ P := getD_mem P _ k h
theorem pr_fst {P : List (List Int × List Int)} {k : Nat} (h : k < P.length) : gl (P.map Prod.fst) k = (pr P k).1 := by
  simp [gl, pr, h]
theorem pr_snd {P : List (List Int × List Int)} {k : Nat} (h : k < P.length) : gl (P.map Prod.snd) k = (pr P k).2 := by
  simp [gl, pr, h]
/-- the text with other symbols at a place -/
def txtW (s : ByteArray) (sz i : Nat) (p : List Int × List Int) : ByteArray := s.extract 0 i ++ textOf p.2 ++ s.extract (i + sz) s.size
def wrI (s : ByteArray) (sz i : Nat) (P : List (List Int × List Int)) : List ByteArray := (P.filter fun p => decide (p.1 = digC (s.extract i (i + sz)))).map (txtW s sz i)
def wrT (s : ByteArray) (P : List (List Int × List Int)) (sz m : Nat) : List ByteArray := ((List.range m).map fun i => wrI s sz i P).flatten
theorem wrT_step (s : ByteArray) (P : List (List Int × List Int)) (sz m : Nat) : wrT s P sz (m + 1) = wrT s P sz m ++ wrI s sz m P := by unfold wrT; rw [List.range_succ, List.map_append, List.flatten_append]; simp
theorem wrI_yes {s : ByteArray} {sz i : Nat} {P : List (List Int × List Int)} {k : Nat} (h : k < P.length) (he : (pr P k).1 = digC (s.extract i (i + sz))) : wrI s sz i (P.take (k + 1)) = wrI s sz i (P.take k) ++ [txtW s sz i (pr P k)] := by
  have e : P.take (k + 1) = P.take k ++ [pr P k] := take_snoc P _ k h
  unfold wrI
  rw [e, List.filter_append, List.map_append]; simp [List.filter, he]
theorem wrI_no {s : ByteArray} {sz i : Nat} {P : List (List Int × List Int)} {k : Nat} (h : k < P.length) (he : ¬ (pr P k).1 = digC (s.extract i (i + sz))) : wrI s sz i (P.take (k + 1)) = wrI s sz i (P.take k) := by
  have e : P.take (k + 1) = P.take k ++ [pr P k] := take_snoc P _ k h
  unfold wrI
  rw [e, List.filter_append, List.map_append]; simp [List.filter, he]
theorem spec_digW (s : ByteArray) (i sz : Nat) (h : i + sz ≤ s.size) (hs : s.size ≤ 20) (W : World) : Calls Tryz.prog 90 #[.string (s.extract i (i + sz))] W (fun e w' => ∃ ga gc, e = .returned (.slice ga sz gc) ∧ Ints w' ga sz gc (digC (s.extract i (i + sz))) ∧ Ext W w') := by
  have hl : (I (digs (s.extract i (i + sz)).data.toList)).length = sz := by rw [I_len]; simp [digs]; omega
  refine (spec_digits (s.extract i (i + sz)) W (by simp; omega)).mono ?_
  rintro e w' ⟨ga, gc, rfl, ho, hx⟩
  rw [hl] at ho ⊢
  exact ⟨ga, gc, rfl, ho.ints, hx⟩
set_option maxHeartbeats 4000000 in
theorem spec_l06Wrong (s : ByteArray) (hs : s.size ≤ 20) (b : Nat) (hb2 : 2 ≤ b) (hb : b ≤ 36) (k : Nat) (hk : k ≤ 5) (hkb : kindB k b = true) (w : World) :
    Calls Tryz.prog 48 #[.string s, .int .i64 b, .int .i64 k] w (RetOs w.heap.size (putAll (wrT s (wrP k b b) (lenK k) (s.size + 1 - lenK k))) w) := by
  have h5 : k = 5 → 10 ≤ b := fun e => by subst e; simp [kindB] at hkb; omega
  have hS := spec_l02Size k hk b w
  rw [sizeK_yes hkb] at hS
  have HS := Lib.hid hS
  have HW := Lib.hid (fun W => spec_wrongK k hk b hb2 hb W)
  have HIn := Lib.hid (fun p (h : p ∈ wrP k b b) => (wrP_in hk h5 h).2.2.1)
  have HI1l := Lib.hid (fun p (h : p ∈ wrP k b b) => (wrP_in hk h5 h).2.1)
  have HIl := Lib.hid (fun p (h : p ∈ wrP k b b) => (wrP_in hk h5 h).2.2.2)
  have hPl := wrP_len k b hb b
  have hpl : (wrP k b b).length ≤ 49248 := Nat.le_trans hPl (by have := Nat.mul_le_mul_right 1368 hb; omega)
  obtain ⟨P, hP⟩ : ∃ P, P = wrP k b b := ⟨_, rfl⟩
  rw [← hP] at HIn HIl HI1l HW hpl ⊢
  have hsz1 : 1 ≤ lenK k ∧ lenK k ≤ 3 := by unfold lenK; split <;> (try split) <;> omega
  obtain ⟨sz, hsz⟩ : ∃ z, z = lenK k := ⟨_, rfl⟩
  rw [← hsz] at HS HIl HI1l hsz1 ⊢
  clear hS hP hPl h5 hkb hsz
  obtain ⟨hsz1, hsz3⟩ := hsz1
  go_enter Tryz.func48, Tryz.ntmps48
  go_wp2_with (first
    | (go_at_call 88; refine HS.out.mono ?_; rintro e w0 ⟨rfl, rfl⟩)
    | (go_at_call 89; refine (HW.out _).mono ?_; rintro e w1 ⟨fa, fc, ta, tc, rfl, hp1⟩; have HF := Lib.hid hp1.t.m.mat; have HT := Lib.hid hp1.t.m'.mat; have HX := Lib.hid hp1.t.ex; clear hp1))
  go_loopw [10, 11] (fun o ii wr => ∃ (i : Nat) (L : List ByteArray) (ad : Option Addr) (cc : Nat), i ≤ s.size + 1 - sz ∧ ii = .int .i64 i ∧ o = .slice ad L.length cc ∧ Hid (L = putAll (wrT s P sz i)) ∧ L.length ≤ i * 49248 ∧ Hid (Own wr w.heap.size 9 ad L.length cc (St L)) ∧ Ext w1 wr) (fun _ ii _ => s.size + 1 - (intOf ii).toNat)
  case atStart => exact ⟨0, [], _, _, Nat.zero_le _, rfl, rfl, rfl, Nat.zero_le _, (Own.lit0 w1 9).mono HX.out.le, (by repeat (first | (with_reducible exact Ext.refl _) | (with_reducible refine Ext.drewN ?_ _) | (with_reducible refine Ext.drew ?_) | (with_reducible refine Ext.alloc ?_ _) | ((with_reducible refine Ext.setCell ?_ ?_ _); rotate_left; focus (first | (simp; done) | (simp; omega) | omega)) | assumption | (with_reducible refine Ext.trans ?_ (by assumption))))⟩
  case round =>
    obtain ⟨i, L, ad, cc, hi, rfl, rfl, HLe, hLl, HSt, hxr⟩ := hrel
    by_cases hlt : i + sz ≤ s.size
    · have HDg := Lib.hid (fun W => spec_digW s i sz hlt hs W)
      go_wp2_with (go_at_call 90; refine (HDg.out _).mono ?_; rintro e w3 ⟨ga, gc, rfl, hg3, hx3⟩; have HG3 := Lib.hid hg3; clear hg3)
      have hxw3 : Ext w1 w3 := hxr.trans hx3
      have HL0 := Lib.hid (show L = putAll (wrT s P sz i ++ wrI s sz i (P.take 0)) by rw [HLe.out]; simp [wrI])
      have HS3 := Lib.hid (HSt.out.ext hx3)
      clear HSt HLe
      go_loopw [10, 13] (fun o jj wr => ∃ (j : Nat) (L : List ByteArray) (ad : Option Addr) (cc : Nat), j ≤ P.length ∧ jj = .int .i64 j ∧ o = .slice ad L.length cc ∧ Hid (L = putAll (wrT s P sz i ++ wrI s sz i (P.take j))) ∧ L.length ≤ i * 49248 + j ∧ Hid (Own wr w.heap.size 9 ad L.length cc (St L)) ∧ Ext w3 wr) (fun _ jj _ => P.length - (intOf jj).toNat)
      case atStart => exact ⟨0, L, ad, cc, Nat.zero_le _, rfl, rfl, HL0.out, hLl, HS3.out, Ext.refl _⟩
      case round =>
        clear HL0 HS3 hLl
        clear hxr hx3
        obtain ⟨j, L, ad, cc, hj, rfl, rfl, HLe, hLl, HSt, hx4⟩ := hrel
        by_cases hjl : j < P.length
        · obtain ⟨b1, o1, ra, rn, rc, ⟨f1, f2⟩, hi1⟩ := HF.out.one (P := Tryz.prog) 60 25 und_rows cell_row1 (j : Int) (by omega) (by omega)
          obtain ⟨b2, o2, sa, sn, sc, ⟨f3, f4⟩, hi2⟩ := HT.out.one (P := Tryz.prog) 60 25 und_rows cell_row1 (j : Int) (by omega) (by omega)
          rw [show (j : Int).toNat = j by omega] at hi1 hi2
          rw [pr_fst hjl] at hi1
          rw [pr_snd hjl] at hi2
          have hn2 : sn = sz := by rw [← hi2.len]; exact HIl.out _ (pr_mem hjl)
          rw [hn2] at f4 hi2
          clear hn2
          have HI1 := Lib.hid hi1
          have HI2 := Lib.hid hi2
          have hn1 : rn ≤ 4611686018427387904 := by rw [← hi1.len]; have := (HIl.out _ (pr_mem hjl)); have := (HI1l.out _ (pr_mem hjl)); omega
          have h36 : Dig36 (pr P j).2 := fun d hd => by have := HIn.out _ (pr_mem hjl) d hd; omega
          have H36 := Lib.hid h36
          clear hi1 hi2 h36
          have hx14 : Ext w1 wr := hxw3.trans hx4
          have HSm := Lib.hid (fun W (h : Ext wr W) => spec_sameT ra ga rn sz rc gc _ _ W (HI1.out.ext (hx14.trans h)) (HG3.out.ext (hx4.trans h)) hn1)
          have g2 := fun W (h : Ext wr W) => f2 W (hx14.trans h)
          have g4 := fun W (h : Ext wr W) => f4 W (hx14.trans h)
          clear f2 f4
          by_cases heq : (pr P j).1 = digC (s.extract i (i + sz))
          · rw [decide_eq_true heq] at HSm
            have HE := Lib.hid (show putS L (txtW s sz i (pr P j)) = putAll (wrT s P sz i ++ wrI s sz i (P.take (j + 1))) by rw [wrI_yes hjl heq, ← List.append_assoc, putAll_snoc, HLe.out])
            have HPl := putS_len (txtW s sz i (pr P j)) L
            have HTx := Lib.hid (show txtW s sz i (pr P j) = s.extract 0 i ++ textOf (pr P j).2 ++ s.extract (i + sz) s.size from rfl)
            have HP := Lib.hid (fun W (h : Ext wr W) => spec_putO w.heap.size ad L.length cc L (txtW s sz i (pr P j)) W (HSt.out.ext h) (by omega) (Nat.le_trans HX.out.le (Nat.le_trans hx14.le h.le)))
            have HFr := Lib.hid (fun W (h : Ext wr W) => spec_from sa sz sc (pr P j).2 W (HI2.out.ext (hx14.trans h)) H36.out (by omega))
            have hrr : Ext wr wr := Ext.refl _
            clear heq
            have hts : (textOf (pr P j).2).size ≤ 3 := by rw [textOf_size]; have := HIl.out _ (pr_mem hjl); omega
            have hle1 : i ≤ s.size := by omega
            have hle2 : (i : Int) ≤ s.size := by omega
            have hle3 : (i : Int) + sz ≤ s.size := by omega
            go_wp2_with (go_at_call 91; refine (HSm.out _ (by repeat (first | (with_reducible exact Ext.refl _) | (with_reducible refine Ext.drewN ?_ _) | (with_reducible refine Ext.drew ?_) | (with_reducible refine Ext.alloc ?_ _) | ((with_reducible refine Ext.setCell ?_ ?_ _); rotate_left; focus (first | (simp; done) | (simp; omega) | omega)) | assumption | (with_reducible refine Ext.trans ?_ (by assumption))))).mono ?_; rintro e w5 ⟨rfl, hx5⟩)
            (refine wp_region_from wr (by repeat (first | (with_reducible exact Ext.refl _) | (with_reducible refine Ext.drewN ?_ _) | (with_reducible refine Ext.drew ?_) | (with_reducible refine Ext.alloc ?_ _) | ((with_reducible refine Ext.setCell ?_ ?_ _); rotate_left; focus (first | (simp; done) | (simp; omega) | omega)) | assumption | (with_reducible refine Ext.trans ?_ (by assumption)))) (by kernel_rfl) (by kernel_rfl) (by kernel_rfl) ?_; (repeat (first | (refine mix_q rfl ?_; go_big_quiet_step (fail); refine wpQuiet_nil ?_; show wpMix _ _ _ _ _ _ _) | (refine mix_s rfl ?_; go_wp2_with (first | ((with_reducible refine (HFr.out _ (by repeat (first | (with_reducible exact Ext.refl _) | (with_reducible refine Ext.drewN ?_ _) | (with_reducible refine Ext.drew ?_) | (with_reducible refine Ext.alloc ?_ _) | ((with_reducible refine Ext.setCell ?_ ?_ _); rotate_left; focus (first | (simp; done) | (simp; omega) | omega)) | assumption | (with_reducible refine Ext.trans ?_ (by assumption))))).mono ?_); rintro e w6 ⟨rfl, hy6⟩; have hxw6 : Ext wr w6 := Ext.trans (by repeat (first | (with_reducible exact Ext.refl _) | (with_reducible refine Ext.drewN ?_ _) | (with_reducible refine Ext.drew ?_) | (with_reducible refine Ext.alloc ?_ _) | ((with_reducible refine Ext.setCell ?_ ?_ _); rotate_left; focus (first | (simp; done) | (simp; omega) | omega)) | assumption | (with_reducible refine Ext.trans ?_ (by assumption)))) hy6; have hz6 := hy6; clear hy6) | ((rw [← HTx.out]; with_reducible refine (HP.out _ (by repeat (first | (with_reducible exact Ext.refl _) | (with_reducible refine Ext.drewN ?_ _) | (with_reducible refine Ext.drew ?_) | (with_reducible refine Ext.alloc ?_ _) | ((with_reducible refine Ext.setCell ?_ ?_ _); rotate_left; focus (first | (simp; done) | (simp; omega) | omega)) | assumption | (with_reducible refine Ext.trans ?_ (by assumption))))).mono ?_); rintro e w7 ⟨a7, c7, rfl, hs7, hy7⟩; have hxw7 : Ext wr w7 := Ext.trans (by repeat (first | (with_reducible exact Ext.refl _) | (with_reducible refine Ext.drewN ?_ _) | (with_reducible refine Ext.drew ?_) | (with_reducible refine Ext.alloc ?_ _) | ((with_reducible refine Ext.setCell ?_ ?_ _); rotate_left; focus (first | (simp; done) | (simp; omega) | omega)) | assumption | (with_reducible refine Ext.trans ?_ (by assumption)))) hy7; have hz7 := hy7; have HS7 := Lib.hid hs7; clear hy7 hs7)); first | refine ⟨up_of (by repeat (first | (with_reducible exact Ext.refl _) | (with_reducible refine Ext.drewN ?_ _) | (with_reducible refine Ext.drew ?_) | (with_reducible refine Ext.alloc ?_ _) | ((with_reducible refine Ext.setCell ?_ ?_ _); rotate_left; focus (first | (simp; done) | (simp; omega) | omega)) | assumption | (with_reducible refine Ext.trans ?_ (by assumption)))), ?_⟩ | refine ⟨rfl, rfl, up_of (by repeat (first | (with_reducible exact Ext.refl _) | (with_reducible refine Ext.drewN ?_ _) | (with_reducible refine Ext.drew ?_) | (with_reducible refine Ext.alloc ?_ _) | ((with_reducible refine Ext.setCell ?_ ?_ _); rotate_left; focus (first | (simp; done) | (simp; omega) | omega)) | assumption | (with_reducible refine Ext.trans ?_ (by assumption)))), ?_⟩))); refine mix_nil ?_)
            go_wp2_with fail
            exact ⟨⟨j + 1, _, a7, c7, hjl, by go_num, rfl, HE.out, by omega, HS7.out.ext (by repeat (first | (with_reducible exact Ext.refl _) | (with_reducible refine Ext.drewN ?_ _) | (with_reducible refine Ext.drew ?_) | (with_reducible refine Ext.alloc ?_ _) | ((with_reducible refine Ext.setCell ?_ ?_ _); rotate_left; focus (first | (simp; done) | (simp; omega) | omega)) | assumption | (with_reducible refine Ext.trans ?_ (by assumption)))), hx4.trans (by repeat (first | (with_reducible exact Ext.refl _) | (with_reducible refine Ext.drewN ?_ _) | (with_reducible refine Ext.drew ?_) | (with_reducible refine Ext.alloc ?_ _) | ((with_reducible refine Ext.setCell ?_ ?_ _); rotate_left; focus (first | (simp; done) | (simp; omega) | omega)) | assumption | (with_reducible refine Ext.trans ?_ (by assumption))))⟩, by simp [intOf]; omega⟩
          · rw [decide_eq_false heq] at HSm
            have HE := Lib.hid (show L = putAll (wrT s P sz i ++ wrI s sz i (P.take (j + 1))) by rw [wrI_no hjl heq]; exact HLe.out)
            have hrr : Ext wr wr := Ext.refl _
            clear heq
            go_wp2_with (go_at_call 91; refine (HSm.out _ (by repeat (first | (with_reducible exact Ext.refl _) | (with_reducible refine Ext.drewN ?_ _) | (with_reducible refine Ext.drew ?_) | (with_reducible refine Ext.alloc ?_ _) | ((with_reducible refine Ext.setCell ?_ ?_ _); rotate_left; focus (first | (simp; done) | (simp; omega) | omega)) | assumption | (with_reducible refine Ext.trans ?_ (by assumption))))).mono ?_; rintro e w5 ⟨rfl, hx5⟩)
            exact ⟨⟨j + 1, L, ad, cc, hjl, by go_num, rfl, HE.out, by omega, HSt.out.ext hx5, hx4.trans hx5⟩, by simp [intOf]; omega⟩
        · have HE := Lib.hid (show P.take j = P by rw [List.take_of_length_le (by omega)])
          go_wp2_with fail
          exact ⟨⟨i + 1, L, ad, cc, by omega, by go_num, rfl, by rw [Hid, wrT_step]; have := HLe.out; rw [HE.out] at this; exact this, by omega, HSt.out, hxw3.trans hx4⟩, by simp [intOf]; omega⟩
    · have HE := Lib.hid (show s.size + 1 - sz = i by omega)
      go_wp2_with fail
      go_ret
      rw [HE.out, ← HLe.out]
      exact ⟨ad, cc, rfl, HSt.out, HX.out.trans hxr⟩
end Go.Proofs.YtbcfbkhbangeoaaGreat
