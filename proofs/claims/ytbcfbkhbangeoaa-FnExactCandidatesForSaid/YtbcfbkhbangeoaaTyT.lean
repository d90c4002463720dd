/- Walks: all lists of symbols and what errors make of them, in the specification. -/
import Derived.Test.YtbcfbkhbangeoaaTyD
import Derived.Test.YtbcfbkhbangeoaaChg
namespace Go.Proofs.Ytbcfbkhbangeoaa
set_option maxRecDepth 100000
open Go.RowKit

/-- two rows of lists of the call's own, apart -/
structure TwoM (w W : World) (a : Option Addr) (n c : Nat) (a' : Option Addr) (n' c' : Nat) (L L' : List (List Int)) : Prop where
  m : OwnMat W w.heap.size 23 2 a n c L
  m' : OwnMat W w.heap.size 23 2 a' n' c' L'
  ap : ∀ g g', a = some g → a' = some g' → g.block ≠ g'.block
  ex : Ext w W
theorem TwoM.ext {w W W' : World} {a : Option Addr} {n c : Nat} {a' : Option Addr} {n' c' : Nat} {L L' : List (List Int)} (h : TwoM w W a n c a' n' c' L L') (hx : Ext W W') : TwoM w W' a n c a' n' c' L L' :=
  ⟨h.m.ext hx, h.m'.ext hx, h.ap, h.ex.trans hx⟩
theorem TwoM.flip {w W : World} {a : Option Addr} {n c : Nat} {a' : Option Addr} {n' c' : Nat} {L L' : List (List Int)} (h : TwoM w W a n c a' n' c' L L') : TwoM w W a' n' c' a n c L' L :=
  ⟨h.m', h.m, fun g g' e e' => (h.ap g' g e' e).symm, h.ex⟩
theorem OwnMat.grownB {w w' : World} {B : Nat} {E1 E0 : TypeId} {a : Option Addr} {n c : Nat} {ll : List (List Int)} (h : OwnMat w B E1 E0 a n c ll) {row : Option Nat} (hg : w.grownBy w' row) (h1 : ∀ g, a = some g → some g.block ≠ row) (h0 : ∀ k, k < n → ∀ a' n' c', Own w B E0 a' n' c' (I (gl ll k)) → ∀ g, a' = some g → some g.block ≠ row) : OwnMat w' B E1 E0 a n c ll :=
  ⟨h.len, let ⟨vs, g1, g2⟩ := h.rows; ⟨vs, g1.grown hg h1, fun k hk => let ⟨a1, n1, c1, g3, g4⟩ := g2 k hk; ⟨a1, n1, c1, g3, g4.grown hg (h0 k hk a1 n1 c1 g4)⟩⟩⟩
theorem two_ne : 2 ≠ 23 := by decide
theorem info_rowQ : (Try.prog.info? 23).map (fun i => (i.zero, i.size, i.bytes)) = some (some (.slice none 0 0), 1, 24) := by kernel_rfl
/-- one list more at the first row -/
theorem law_two (w : World) (a : Option Addr) (n c : Nat) (a' : Option Addr) (n' c' : Nat) (L L' : List (List Int)) (W : World) (hT : TwoM w W a n c a' n' c' L L') (r : List Int) (cs : Array Value) (hr : cs.toList = I r) (hrl : r.length ≤ 8) {ops : Array Oper} {rest : List Oper} {o : Oper} {A : Act} {Q : Exit → Act → World → Prop}
    (hg : o.guard = none) (s x : Operand) (hop : o.op = Op.call { callee := Callee.builtin Builtin.append, args := #[s, x], argTypes := #[81, 81] }) (k : Nat) (hk : k = r.length)
    (hs : A.eval s = .slice a n c) (hx : A.eval x = .slice (some ⟨W.heap.size + 1, 0, none⟩) 1 1) (hn : n ≤ 1048576)
    (hK : ∀ ad cc w', TwoM w w' ad (n + 1) cc a' n' c' (L ++ [r]) L' → wpList Try.prog ops Q rest (A.put o.dst (.slice ad (n + 1) cc)) w') :
    wpList Try.prog ops Q (o :: rest) A ((W.alloc (.cells cs 2)).alloc (.cells #[.slice (some ⟨W.heap.size, 0, none⟩) k k] 23)) := by
  obtain ⟨hlen, vs, ho, hps⟩ := hT.m
  have hx1 : Ext W (W.alloc (.cells cs 2)) := (Ext.refl W).alloc _
  have hnew : Own (W.alloc (.cells cs 2)) w.heap.size 2 (some ⟨W.heap.size, 0, none⟩) k k (I r) := by
    have h := World.ownsRow_lit (e := 2) (size := 1) (base := w.heap.size) W cs k hT.ex.le (by unfold maxLen; omega) (by rw [Nat.mul_one, hk, ← I_len r, ← hr]; simp)
    rw [hr] at h; exact h
  refine law_append1_at (W.alloc (.cells cs 2)) hg s x 81 hop 23 (.slice none 0 0) 24 und_rows info_rowQ rfl w.heap.size a n c vs (.slice (some ⟨W.heap.size, 0, none⟩) k k) rfl hs (by rw [hx]; simp) (ho.ext hx1) (Nat.le_trans hT.ex.le hx1.le) (by omega) (by omega) ?_
  intro ad cc w' ho' hb hgr hap
  refine hK ad cc w' ⟨OwnMat.push hlen (fun j hj => let ⟨p, q, t, g1, g2⟩ := hps j hj; ⟨p, q, t, g1, g2.ext hx1⟩) (ho.ext hx1) hnew ho' hgr two_ne, ?_, ?_, Ext.below (hT.ex.trans hx1) hb⟩
  · refine OwnMat.grownB (hT.m'.ext hx1) hgr (fun g hga => ?_) (fun j _ p q t hp g hga => ?_)
    · cases a with
      | none => simp [Value.ownBlock]
      | some g1 => intro e; exact hT.ap g1 g rfl hga (by simpa [Value.ownBlock] using e.symm)
    · cases a with
      | none => simp [Value.ownBlock]
      | some g1 =>
        have hne := own_ne_type hp (ho.ext hx1) two_ne g g1 hga rfl
        intro e; exact hne (by simpa [Value.ownBlock] using e)
  · rintro g g' rfl rfl he
    rcases hap g rfl with ⟨g0, h1, h2⟩ | h2
    · exact hT.ap g0 g' h1 rfl (h2.trans he)
    · obtain ⟨vs', hv', _⟩ := hT.m'.rows
      have := (World.ownsRow.lt hv' g'.block (by
        rcases hv'.2 with ⟨h, _⟩ | ⟨q, cap, cur, hv, _⟩
        · cases h
        · simp only [Value.slice.injEq, Option.some.injEq] at hv; rw [hv.1]; rfl)).2
      have := hx1.le
      omega
end Go.Proofs.Ytbcfbkhbangeoaa

/- Walks: spec.l02Wrong, by kinds. -/
namespace Go.Proofs.Ytbcfbkhbangeoaa
set_option maxRecDepth 100000
open Go.RowKit

/-- what a jump error makes of three symbols, the last one running -/
def jumpP (k a x m : Nat) : List (List Int × List Int) := ((List.range m).filter fun (c : Nat) => !decide (a = c)).map fun (c : Nat) => if k = 2 then ([(a : Int), x, c], [(c : Int), x, a]) else ([(a : Int), x, a], [(c : Int), x, c])
def cellP (k b a x : Nat) : List (List Int × List Int) :=
  if k = 0 then (if a = x then [] else [([(a : Int)], [(x : Int)])])
  else if k = 1 then (if a = x then [] else [([(a : Int), x], [(x : Int), a])])
  else if k = 3 then (if a = x then [] else [([(a : Int), a], [(x : Int), x])])
  else if k = 5 then (if a = 1 ∧ 2 ≤ x ∧ x ≤ 9 then [([1, (x : Int)], [(x : Int), 0])] else []) ++ (if x = 0 ∧ 2 ≤ a ∧ a ≤ 9 then [([(a : Int), 0], [1, (a : Int)])] else [])
  else jumpP k a x b
def rowP (k b a m : Nat) : List (List Int × List Int) := ((List.range m).map (cellP k b a)).flatten
def wrP (k b m : Nat) : List (List Int × List Int) := ((List.range m).map fun a => rowP k b a b).flatten
theorem rowP_step (k b a m : Nat) : rowP k b a (m + 1) = rowP k b a m ++ cellP k b a m := by unfold rowP; rw [List.range_succ, List.map_append, List.flatten_append]; simp
theorem wrP_step (k b m : Nat) : wrP k b (m + 1) = wrP k b m ++ rowP k b m b := by unfold wrP; rw [List.range_succ, List.map_append, List.flatten_append]; simp
theorem jumpP_yes {k a x m : Nat} (h : a ≠ m) : jumpP k a x (m + 1) = jumpP k a x m ++ [if k = 2 then ([(a : Int), x, m], [(m : Int), x, a]) else ([(a : Int), x, a], [(m : Int), x, m])] := by
  unfold jumpP; rw [List.range_succ, List.filter_append, List.map_append]; simp [List.filter, h]
theorem jumpP_no {k a x m : Nat} (h : a = m) : jumpP k a x (m + 1) = jumpP k a x m := by
  unfold jumpP; rw [List.range_succ, List.filter_append, List.map_append]; simp [List.filter, h]
/-- two rows, as a list of pairs -/
structure Prs (w W : World) (a : Option Addr) (n c : Nat) (a' : Option Addr) (c' : Nat) (P : List (List Int × List Int)) : Prop where
  t : TwoM w W a n c a' n c' (P.map Prod.fst) (P.map Prod.snd)
  len : P.length = n
theorem Prs.ext {w W W' : World} {a : Option Addr} {n c : Nat} {a' : Option Addr} {c' : Nat} {P : List (List Int × List Int)} (h : Prs w W a n c a' c' P) (hx : Ext W W') : Prs w W' a n c a' c' P := ⟨h.t.ext hx, h.len⟩
theorem Prs.snoc {w W : World} {a : Option Addr} {n c : Nat} {a' : Option Addr} {c' : Nat} {P : List (List Int × List Int)} {r r' : List Int} (h : TwoM w W a (n + 1) c a' (n + 1) c' (P.map Prod.fst ++ [r]) (P.map Prod.snd ++ [r'])) (hl : P.length = n) : Prs w W a (n + 1) c a' c' (P ++ [(r, r')]) :=
  ⟨by rw [List.map_append, List.map_append]; exact h, by simp [hl]⟩
def RetPrs (P : List (List Int × List Int)) (w : World) (e : Ending) (w' : World) : Prop := ∃ a c a' c', e = .returned (.tuple #[.slice a P.length c, .slice a' P.length c']) ∧ Prs w w' a P.length c a' c' P
theorem two_start (w : World) : TwoM w ((w.alloc (.cells #[] 23)).alloc (.cells #[] 23)) (some ⟨w.heap.size, 0, none⟩) 0 0 (some ⟨w.heap.size + 1, 0, none⟩) 0 0 [] [] := by
  have hx : Ext w (w.alloc (.cells #[] 23)) := (Ext.refl w).alloc _
  have hs : (w.alloc (.cells #[] 23)).heap.size = w.heap.size + 1 := by simp
  have h2 := (OwnMat.lit0 (w.alloc (.cells #[] 23)) 23 2).mono hx.le
  rw [hs] at h2
  exact ⟨(OwnMat.lit0 w _ _).ext ((Ext.refl _).alloc _), h2, fun g g' e e' => by cases e; cases e'; simp, hx.alloc _⟩
theorem int_ne {a x : Nat} (h : a ≠ x) : (a : Int) ≠ (x : Int) := by omega
set_option maxHeartbeats 4000000 in
theorem spec_wrong0 (b : Nat) (hb2 : 2 ≤ b) (hb : b ≤ 36) (w : World) : Calls Try.prog 64 #[.int .i64 b, .int .i64 0] w (RetPrs (wrP 0 b b) w) := by
  have H0 := Lib.hid (two_start w)
  go_enter Try.func64, Try.ntmps64
  go_wp2_with fail
  go_loopw [6, 7, 8] (fun u6 u7 u8 wr => ∃ (a n : Nat) (P : List (List Int × List Int)) (a1 : Option Addr) (c1 : Nat) (a2 : Option Addr) (c2 : Nat), u6 = .slice a1 n c1 ∧ u7 = .slice a2 n c2 ∧ u8 = .int .i64 a ∧ a ≤ b ∧ Hid (P = wrP 0 b a) ∧ n ≤ a * 2000 ∧ Hid (Prs w wr a1 n c1 a2 c2 P)) (fun _ _ u8 _ => b - (intOf u8).toNat)
  case atStart => exact ⟨0, 0, [], _, _, _, _, rfl, rfl, rfl, Nat.zero_le _, rfl, by omega, H0.out, rfl⟩
  case round =>
    clear H0
    obtain ⟨a, n, P, a1, c1, a2, c2, rfl, rfl, rfl, ha, HP, hn, HT⟩ := hrel
    by_cases hlt : a < b
    · go_wp2_with fail
      go_loopw [6, 7, 9] (fun u6 u7 u9 wr => ∃ (x m : Nat) (P' : List (List Int × List Int)) (a1' : Option Addr) (c1' : Nat) (a2' : Option Addr) (c2' : Nat), u6 = .slice a1' m c1' ∧ u7 = .slice a2' m c2' ∧ u9 = .int .i64 x ∧ x ≤ b ∧ Hid (P' = P ++ rowP 0 b a x) ∧ m ≤ n + x * 50 ∧ Hid (Prs w wr a1' m c1' a2' c2' P')) (fun _ _ u9 _ => b - (intOf u9).toNat)
      case atStart => exact ⟨0, n, P, _, _, _, _, rfl, rfl, rfl, Nat.zero_le _, (List.append_nil P).symm, by omega, HT.out⟩
      case round =>
        clear HT
        obtain ⟨x, m, P', a1', c1', a2', c2', rfl, rfl, rfl, hxb, HP', hm, HT⟩ := hrel
        by_cases hlx : x < b
        · have HS := Lib.hid (rowP_step 0 b a x)
          by_cases hax : a = x
          · subst hax
            have HC := Lib.hid (show cellP 0 b a a = [] by simp [cellP])
            go_wp2_with fail
            exact ⟨⟨a + 1, m, P', a1', c1', a2', c2', rfl, rfl, by go_num, by omega, by rw [Hid, HS.out, HC.out, List.append_nil]; exact HP'.out, by omega, HT.out⟩, by simp [intOf]; omega⟩
          · have HC := Lib.hid (show cellP 0 b a x = [([(a : Int)], [(x : Int)])] by simp [cellP, hax])
            have hai : (a : Int) ≠ (x : Int) := int_ne hax
            have hlen := HT.out.len
            go_wp2_with (first
              | (at_builtin; refine law_two w a1' m c1' a2' m c2' _ _ wr HT.out.t [(a : Int)] _ rfl (by simp) rfl _ _ rfl _ rfl rfl rfl (by omega) ?_; intro ad cc w5 ht5; have HT5 := Lib.hid ht5; clear ht5)
              | (at_builtin; refine law_two w a2' m c2' ad (m + 1) cc _ _ w5 HT5.out.flip [(x : Int)] _ rfl (by simp) rfl _ _ rfl _ rfl rfl rfl (by omega) ?_; intro ad6 cc6 w6 ht6; have HT6 := Lib.hid ht6.flip; clear ht6))
            exact ⟨⟨x + 1, m + 1, P' ++ [([(a : Int)], [(x : Int)])], ad, cc, ad6, cc6, rfl, rfl, by go_num, by omega, by rw [Hid, HS.out, HC.out, HP'.out, List.append_assoc], by omega, Prs.snoc HT6.out hlen⟩, by simp [intOf]; omega⟩
        · obtain rfl : x = b := by omega
          go_wp2_with fail
          exact ⟨⟨a + 1, m, P', a1', c1', a2', c2', rfl, rfl, by go_num, by omega, by rw [Hid, wrP_step, HP'.out, HP.out], by omega, HT.out⟩, by simp [intOf]; omega⟩
    · obtain rfl : a = b := by omega
      go_wp2_with fail
      go_ret2
      have h := HT.out
      have e := h.len
      rw [HP.out] at h e
      subst e
      exact ⟨a1, c1, a2, c2, rfl, h⟩
set_option maxHeartbeats 4000000 in
theorem spec_wrong1 (b : Nat) (hb2 : 2 ≤ b) (hb : b ≤ 36) (w : World) : Calls Try.prog 64 #[.int .i64 b, .int .i64 1] w (RetPrs (wrP 1 b b) w) := by
  have H0 := Lib.hid (two_start w)
  go_enter Try.func64, Try.ntmps64
  go_wp2_with fail
  go_loopw [6, 7, 8] (fun u6 u7 u8 wr => ∃ (a n : Nat) (P : List (List Int × List Int)) (a1 : Option Addr) (c1 : Nat) (a2 : Option Addr) (c2 : Nat), u6 = .slice a1 n c1 ∧ u7 = .slice a2 n c2 ∧ u8 = .int .i64 a ∧ a ≤ b ∧ Hid (P = wrP 1 b a) ∧ n ≤ a * 2000 ∧ Hid (Prs w wr a1 n c1 a2 c2 P)) (fun _ _ u8 _ => b - (intOf u8).toNat)
  case atStart => exact ⟨0, 0, [], _, _, _, _, rfl, rfl, rfl, Nat.zero_le _, rfl, by omega, H0.out, rfl⟩
  case round =>
    clear H0
    obtain ⟨a, n, P, a1, c1, a2, c2, rfl, rfl, rfl, ha, HP, hn, HT⟩ := hrel
    by_cases hlt : a < b
    · go_wp2_with fail
      go_loopw [6, 7, 9] (fun u6 u7 u9 wr => ∃ (x m : Nat) (P' : List (List Int × List Int)) (a1' : Option Addr) (c1' : Nat) (a2' : Option Addr) (c2' : Nat), u6 = .slice a1' m c1' ∧ u7 = .slice a2' m c2' ∧ u9 = .int .i64 x ∧ x ≤ b ∧ Hid (P' = P ++ rowP 1 b a x) ∧ m ≤ n + x * 50 ∧ Hid (Prs w wr a1' m c1' a2' c2' P')) (fun _ _ u9 _ => b - (intOf u9).toNat)
      case atStart => exact ⟨0, n, P, _, _, _, _, rfl, rfl, rfl, Nat.zero_le _, (List.append_nil P).symm, by omega, HT.out⟩
      case round =>
        clear HT
        obtain ⟨x, m, P', a1', c1', a2', c2', rfl, rfl, rfl, hxb, HP', hm, HT⟩ := hrel
        by_cases hlx : x < b
        · have HS := Lib.hid (rowP_step 1 b a x)
          by_cases hax : a = x
          · subst hax
            have HC := Lib.hid (show cellP 1 b a a = [] by simp [cellP])
            go_wp2_with fail
            exact ⟨⟨a + 1, m, P', a1', c1', a2', c2', rfl, rfl, by go_num, by omega, by rw [Hid, HS.out, HC.out, List.append_nil]; exact HP'.out, by omega, HT.out⟩, by simp [intOf]; omega⟩
          · have HC := Lib.hid (show cellP 1 b a x = [([(a : Int), x], [(x : Int), a])] by simp [cellP, hax])
            have hai : (a : Int) ≠ (x : Int) := int_ne hax
            have hlen := HT.out.len
            go_wp2_with (first
              | (at_builtin; refine law_two w a1' m c1' a2' m c2' _ _ wr HT.out.t [(a : Int), x] _ rfl (by simp) rfl _ _ rfl _ rfl rfl rfl (by omega) ?_; intro ad cc w5 ht5; have HT5 := Lib.hid ht5; clear ht5)
              | (at_builtin; refine law_two w a2' m c2' ad (m + 1) cc _ _ w5 HT5.out.flip [(x : Int), a] _ rfl (by simp) rfl _ _ rfl _ rfl rfl rfl (by omega) ?_; intro ad6 cc6 w6 ht6; have HT6 := Lib.hid ht6.flip; clear ht6))
            exact ⟨⟨x + 1, m + 1, P' ++ [([(a : Int), x], [(x : Int), a])], ad, cc, ad6, cc6, rfl, rfl, by go_num, by omega, by rw [Hid, HS.out, HC.out, HP'.out, List.append_assoc], by omega, Prs.snoc HT6.out hlen⟩, by simp [intOf]; omega⟩
        · obtain rfl : x = b := by omega
          go_wp2_with fail
          exact ⟨⟨a + 1, m, P', a1', c1', a2', c2', rfl, rfl, by go_num, by omega, by rw [Hid, wrP_step, HP'.out, HP.out], by omega, HT.out⟩, by simp [intOf]; omega⟩
    · obtain rfl : a = b := by omega
      go_wp2_with fail
      go_ret2
      have h := HT.out
      have e := h.len
      rw [HP.out] at h e
      subst e
      exact ⟨a1, c1, a2, c2, rfl, h⟩
set_option maxHeartbeats 4000000 in
theorem spec_wrong3 (b : Nat) (hb2 : 2 ≤ b) (hb : b ≤ 36) (w : World) : Calls Try.prog 64 #[.int .i64 b, .int .i64 3] w (RetPrs (wrP 3 b b) w) := by
  have H0 := Lib.hid (two_start w)
  go_enter Try.func64, Try.ntmps64
  go_wp2_with fail
  go_loopw [6, 7, 8] (fun u6 u7 u8 wr => ∃ (a n : Nat) (P : List (List Int × List Int)) (a1 : Option Addr) (c1 : Nat) (a2 : Option Addr) (c2 : Nat), u6 = .slice a1 n c1 ∧ u7 = .slice a2 n c2 ∧ u8 = .int .i64 a ∧ a ≤ b ∧ Hid (P = wrP 3 b a) ∧ n ≤ a * 2000 ∧ Hid (Prs w wr a1 n c1 a2 c2 P)) (fun _ _ u8 _ => b - (intOf u8).toNat)
  case atStart => exact ⟨0, 0, [], _, _, _, _, rfl, rfl, rfl, Nat.zero_le _, rfl, by omega, H0.out, rfl⟩
  case round =>
    clear H0
    obtain ⟨a, n, P, a1, c1, a2, c2, rfl, rfl, rfl, ha, HP, hn, HT⟩ := hrel
    by_cases hlt : a < b
    · go_wp2_with fail
      go_loopw [6, 7, 9] (fun u6 u7 u9 wr => ∃ (x m : Nat) (P' : List (List Int × List Int)) (a1' : Option Addr) (c1' : Nat) (a2' : Option Addr) (c2' : Nat), u6 = .slice a1' m c1' ∧ u7 = .slice a2' m c2' ∧ u9 = .int .i64 x ∧ x ≤ b ∧ Hid (P' = P ++ rowP 3 b a x) ∧ m ≤ n + x * 50 ∧ Hid (Prs w wr a1' m c1' a2' c2' P')) (fun _ _ u9 _ => b - (intOf u9).toNat)
      case atStart => exact ⟨0, n, P, _, _, _, _, rfl, rfl, rfl, Nat.zero_le _, (List.append_nil P).symm, by omega, HT.out⟩
      case round =>
        clear HT
        obtain ⟨x, m, P', a1', c1', a2', c2', rfl, rfl, rfl, hxb, HP', hm, HT⟩ := hrel
        by_cases hlx : x < b
        · have HS := Lib.hid (rowP_step 3 b a x)
          by_cases hax : a = x
          · subst hax
            have HC := Lib.hid (show cellP 3 b a a = [] by simp [cellP])
            go_wp2_with fail
            exact ⟨⟨a + 1, m, P', a1', c1', a2', c2', rfl, rfl, by go_num, by omega, by rw [Hid, HS.out, HC.out, List.append_nil]; exact HP'.out, by omega, HT.out⟩, by simp [intOf]; omega⟩
          · have HC := Lib.hid (show cellP 3 b a x = [([(a : Int), a], [(x : Int), x])] by simp [cellP, hax])
            have hai : (a : Int) ≠ (x : Int) := int_ne hax
            have hlen := HT.out.len
            go_wp2_with (first
              | (at_builtin; refine law_two w a1' m c1' a2' m c2' _ _ wr HT.out.t [(a : Int), a] _ rfl (by simp) rfl _ _ rfl _ rfl rfl rfl (by omega) ?_; intro ad cc w5 ht5; have HT5 := Lib.hid ht5; clear ht5)
              | (at_builtin; refine law_two w a2' m c2' ad (m + 1) cc _ _ w5 HT5.out.flip [(x : Int), x] _ rfl (by simp) rfl _ _ rfl _ rfl rfl rfl (by omega) ?_; intro ad6 cc6 w6 ht6; have HT6 := Lib.hid ht6.flip; clear ht6))
            exact ⟨⟨x + 1, m + 1, P' ++ [([(a : Int), a], [(x : Int), x])], ad, cc, ad6, cc6, rfl, rfl, by go_num, by omega, by rw [Hid, HS.out, HC.out, HP'.out, List.append_assoc], by omega, Prs.snoc HT6.out hlen⟩, by simp [intOf]; omega⟩
        · obtain rfl : x = b := by omega
          go_wp2_with fail
          exact ⟨⟨a + 1, m, P', a1', c1', a2', c2', rfl, rfl, by go_num, by omega, by rw [Hid, wrP_step, HP'.out, HP.out], by omega, HT.out⟩, by simp [intOf]; omega⟩
    · obtain rfl : a = b := by omega
      go_wp2_with fail
      go_ret2
      have h := HT.out
      have e := h.len
      rw [HP.out] at h e
      subst e
      exact ⟨a1, c1, a2, c2, rfl, h⟩
end Go.Proofs.Ytbcfbkhbangeoaa

/- Walks: spec.l02Wrong, phonetic errors. -/
namespace Go.Proofs.Ytbcfbkhbangeoaa
set_option maxRecDepth 100000
open Go.RowKit

theorem phon_no {b a x : Nat} (h1 : ¬ (a = 1 ∧ 2 ≤ x ∧ x ≤ 9)) (h2 : ¬ (x = 0 ∧ 2 ≤ a ∧ a ≤ 9)) : cellP 5 b a x = [] := by
  simp only [cellP, if_neg h1, if_neg h2]; rfl
theorem phon_1 {b a x : Nat} (h1 : a = 1) (h2 : 2 ≤ x) (h9 : x ≤ 9) : cellP 5 b a x = [([1, (x : Int)], [(x : Int), 0])] := by
  simp only [cellP, if_pos (show a = 1 ∧ 2 ≤ x ∧ x ≤ 9 from ⟨h1, h2, h9⟩), if_neg (show ¬ (x = 0 ∧ 2 ≤ a ∧ a ≤ 9) by omega)]; rfl
theorem phon_2 {b a x : Nat} (h1 : x = 0) (h2 : 2 ≤ a) (h9 : a ≤ 9) : cellP 5 b a x = [([(a : Int), 0], [1, (a : Int)])] := by
  simp only [cellP, if_neg (show ¬ (a = 1 ∧ 2 ≤ x ∧ x ≤ 9) by omega), if_pos (show x = 0 ∧ 2 ≤ a ∧ a ≤ 9 from ⟨h1, h2, h9⟩)]; rfl
set_option maxHeartbeats 4000000 in
theorem spec_wrong5 (b : Nat) (hb2 : 2 ≤ b) (hb : b ≤ 36) (w : World) : Calls Try.prog 64 #[.int .i64 b, .int .i64 5] w (RetPrs (wrP 5 b b) w) := by
  have H0 := Lib.hid (two_start w)
  go_enter Try.func64, Try.ntmps64
  go_wp2_with fail
  go_loopw [6, 7, 8] (fun u6 u7 u8 wr => ∃ (a n : Nat) (P : List (List Int × List Int)) (a1 : Option Addr) (c1 : Nat) (a2 : Option Addr) (c2 : Nat), u6 = .slice a1 n c1 ∧ u7 = .slice a2 n c2 ∧ u8 = .int .i64 a ∧ a ≤ b ∧ Hid (P = wrP 5 b a) ∧ n ≤ a * 2000 ∧ Hid (Prs w wr a1 n c1 a2 c2 P)) (fun _ _ u8 _ => b - (intOf u8).toNat)
  case atStart => exact ⟨0, 0, [], _, _, _, _, rfl, rfl, rfl, Nat.zero_le _, rfl, by omega, H0.out, rfl⟩
  case round =>
    clear H0
    obtain ⟨a, n, P, a1, c1, a2, c2, rfl, rfl, rfl, ha, HP, hn, HT⟩ := hrel
    by_cases hlt : a < b
    · go_wp2_with fail
      go_loopw [6, 7, 9] (fun u6 u7 u9 wr => ∃ (x m : Nat) (P' : List (List Int × List Int)) (a1' : Option Addr) (c1' : Nat) (a2' : Option Addr) (c2' : Nat), u6 = .slice a1' m c1' ∧ u7 = .slice a2' m c2' ∧ u9 = .int .i64 x ∧ x ≤ b ∧ Hid (P' = P ++ rowP 5 b a x) ∧ m ≤ n + x * 50 ∧ Hid (Prs w wr a1' m c1' a2' c2' P')) (fun _ _ u9 _ => b - (intOf u9).toNat)
      case atStart => exact ⟨0, n, P, _, _, _, _, rfl, rfl, rfl, Nat.zero_le _, (List.append_nil P).symm, by omega, HT.out⟩
      case round =>
        clear HT
        obtain ⟨x, m, P', a1', c1', a2', c2', rfl, rfl, rfl, hxb, HP', hm, HT⟩ := hrel
        by_cases hlx : x < b
        · have HS := Lib.hid (rowP_step 5 b a x)
          by_cases ha1 : a = 1
          · have ha1b : ((a : Int) == 1) = true := by simp [ha1]
            by_cases hx2 : 2 ≤ x
            · have hx2i : (2 : Int) ≤ x := by omega
              have hx0b : ((x : Int) == 0) = false := by simp; omega
              by_cases hx9 : x ≤ 9
              · have hx9i : (x : Int) ≤ 9 := by omega
                have HC := Lib.hid (phon_1 (b := b) (a := a) (x := x) (by omega) (by omega) (by omega))
                clear ha1
                have hlen := HT.out.len
                go_wp2_with (first
                  | (at_builtin; refine law_two w a1' m c1' a2' m c2' _ _ wr HT.out.t [1, (x : Int)] _ rfl (by simp) rfl _ _ rfl _ rfl rfl rfl (by omega) ?_; intro ad cc w5 ht5; have HT5 := Lib.hid ht5; clear ht5)
                  | (at_builtin; refine law_two w a2' m c2' ad (m + 1) cc _ _ w5 HT5.out.flip [(x : Int), 0] _ rfl (by simp) rfl _ _ rfl _ rfl rfl rfl (by omega) ?_; intro ad6 cc6 w6 ht6; have HT6 := Lib.hid ht6.flip; clear ht6))
                exact ⟨⟨x + 1, m + 1, P' ++ [([1, (x : Int)], [(x : Int), 0])], ad, cc, ad6, cc6, rfl, rfl, by go_num, by omega, by rw [Hid, HS.out, HC.out, HP'.out, List.append_assoc], by omega, Prs.snoc HT6.out hlen⟩, by simp [intOf]; omega⟩
              · have hx9i : ¬ (x : Int) ≤ 9 := by omega
                have HC := Lib.hid (phon_no (b := b) (a := a) (x := x) (by omega) (by omega))
                clear ha1
                go_wp2_with fail
                exact ⟨⟨x + 1, m, P', a1', c1', a2', c2', rfl, rfl, by go_num, by omega, by rw [Hid, HS.out, HC.out, List.append_nil]; exact HP'.out, by omega, HT.out⟩, by simp [intOf]; omega⟩
            · have hx2i : ¬ (2 : Int) ≤ x := by omega
              by_cases hx0 : x = 0
              · have hx0b : ((x : Int) == 0) = true := by simp [hx0]
                have ha2i : ¬ (2 : Int) ≤ a := by omega
                have HC := Lib.hid (phon_no (b := b) (a := a) (x := x) (by omega) (by omega))
                clear ha1 hx0
                go_wp2_with fail
                exact ⟨⟨x + 1, m, P', a1', c1', a2', c2', rfl, rfl, by go_num, by omega, by rw [Hid, HS.out, HC.out, List.append_nil]; exact HP'.out, by omega, HT.out⟩, by simp [intOf]; omega⟩
              · have hx0b : ((x : Int) == 0) = false := by simp; omega
                have HC := Lib.hid (phon_no (b := b) (a := a) (x := x) (by omega) (by omega))
                clear ha1 hx0
                go_wp2_with fail
                exact ⟨⟨x + 1, m, P', a1', c1', a2', c2', rfl, rfl, by go_num, by omega, by rw [Hid, HS.out, HC.out, List.append_nil]; exact HP'.out, by omega, HT.out⟩, by simp [intOf]; omega⟩
          · have ha1b : ((a : Int) == 1) = false := by simp; omega
            by_cases hx0 : x = 0
            · have hx0b : ((x : Int) == 0) = true := by simp [hx0]
              by_cases ha2 : 2 ≤ a
              · have ha2i : (2 : Int) ≤ a := by omega
                by_cases ha9 : a ≤ 9
                · have ha9i : (a : Int) ≤ 9 := by omega
                  have HC := Lib.hid (phon_2 (b := b) (a := a) (x := x) (by omega) (by omega) (by omega))
                  clear hx0 ha1
                  have hlen := HT.out.len
                  go_wp2_with (first
                    | (at_builtin; refine law_two w a1' m c1' a2' m c2' _ _ wr HT.out.t [(a : Int), 0] _ rfl (by simp) rfl _ _ rfl _ rfl rfl rfl (by omega) ?_; intro ad cc w5 ht5; have HT5 := Lib.hid ht5; clear ht5)
                    | (at_builtin; refine law_two w a2' m c2' ad (m + 1) cc _ _ w5 HT5.out.flip [1, (a : Int)] _ rfl (by simp) rfl _ _ rfl _ rfl rfl rfl (by omega) ?_; intro ad6 cc6 w6 ht6; have HT6 := Lib.hid ht6.flip; clear ht6))
                  exact ⟨⟨x + 1, m + 1, P' ++ [([(a : Int), 0], [1, (a : Int)])], ad, cc, ad6, cc6, rfl, rfl, by go_num, by omega, by rw [Hid, HS.out, HC.out, HP'.out, List.append_assoc], by omega, Prs.snoc HT6.out hlen⟩, by simp [intOf]; omega⟩
                · have ha9i : ¬ (a : Int) ≤ 9 := by omega
                  have HC := Lib.hid (phon_no (b := b) (a := a) (x := x) (by omega) (by omega))
                  clear hx0 ha1
                  go_wp2_with fail
                  exact ⟨⟨x + 1, m, P', a1', c1', a2', c2', rfl, rfl, by go_num, by omega, by rw [Hid, HS.out, HC.out, List.append_nil]; exact HP'.out, by omega, HT.out⟩, by simp [intOf]; omega⟩
              · have ha2i : ¬ (2 : Int) ≤ a := by omega
                have HC := Lib.hid (phon_no (b := b) (a := a) (x := x) (by omega) (by omega))
                clear hx0 ha1
                go_wp2_with fail
                exact ⟨⟨x + 1, m, P', a1', c1', a2', c2', rfl, rfl, by go_num, by omega, by rw [Hid, HS.out, HC.out, List.append_nil]; exact HP'.out, by omega, HT.out⟩, by simp [intOf]; omega⟩
            · have hx0b : ((x : Int) == 0) = false := by simp; omega
              have HC := Lib.hid (phon_no (b := b) (a := a) (x := x) (by omega) (by omega))
              clear hx0 ha1
              go_wp2_with fail
              exact ⟨⟨x + 1, m, P', a1', c1', a2', c2', rfl, rfl, by go_num, by omega, by rw [Hid, HS.out, HC.out, List.append_nil]; exact HP'.out, by omega, HT.out⟩, by simp [intOf]; omega⟩
        · obtain rfl : x = b := by omega
          go_wp2_with fail
          exact ⟨⟨a + 1, m, P', a1', c1', a2', c2', rfl, rfl, by go_num, by omega, by rw [Hid, wrP_step, HP'.out, HP.out], by omega, HT.out⟩, by simp [intOf]; omega⟩
    · obtain rfl : a = b := by omega
      go_wp2_with fail
      go_ret2
      have h := HT.out
      have e := h.len
      rw [HP.out] at h e
      subst e
      exact ⟨a1, c1, a2, c2, rfl, h⟩
end Go.Proofs.Ytbcfbkhbangeoaa

/- Walks: spec.l02Wrong, jumps. -/
namespace Go.Proofs.Ytbcfbkhbangeoaa
set_option maxRecDepth 100000
open Go.RowKit

set_option maxHeartbeats 4000000 in
theorem spec_wrong2 (b : Nat) (hb2 : 2 ≤ b) (hb : b ≤ 36) (w : World) : Calls Try.prog 64 #[.int .i64 b, .int .i64 2] w (RetPrs (wrP 2 b b) w) := by
  have H0 := Lib.hid (two_start w)
  go_enter Try.func64, Try.ntmps64
  go_wp2_with fail
  go_loopw [6, 7, 8] (fun u6 u7 u8 wr => ∃ (a n : Nat) (P : List (List Int × List Int)) (a1 : Option Addr) (c1 : Nat) (a2 : Option Addr) (c2 : Nat), u6 = .slice a1 n c1 ∧ u7 = .slice a2 n c2 ∧ u8 = .int .i64 a ∧ a ≤ b ∧ Hid (P = wrP 2 b a) ∧ n ≤ a * 2000 ∧ Hid (Prs w wr a1 n c1 a2 c2 P)) (fun _ _ u8 _ => b - (intOf u8).toNat)
  case atStart => exact ⟨0, 0, [], _, _, _, _, rfl, rfl, rfl, Nat.zero_le _, rfl, by omega, H0.out, rfl⟩
  case round =>
    clear H0
    obtain ⟨a, n, P, a1, c1, a2, c2, rfl, rfl, rfl, ha, HP, hn, HT⟩ := hrel
    by_cases hlt : a < b
    · go_wp2_with fail
      go_loopw [6, 7, 9] (fun u6 u7 u9 wr => ∃ (x m : Nat) (P' : List (List Int × List Int)) (a1' : Option Addr) (c1' : Nat) (a2' : Option Addr) (c2' : Nat), u6 = .slice a1' m c1' ∧ u7 = .slice a2' m c2' ∧ u9 = .int .i64 x ∧ x ≤ b ∧ Hid (P' = P ++ rowP 2 b a x) ∧ m ≤ n + x * 50 ∧ Hid (Prs w wr a1' m c1' a2' c2' P')) (fun _ _ u9 _ => b - (intOf u9).toNat)
      case atStart => exact ⟨0, n, P, _, _, _, _, rfl, rfl, rfl, Nat.zero_le _, (List.append_nil P).symm, by omega, HT.out⟩
      case round =>
        clear HT
        obtain ⟨x, m, P', a1', c1', a2', c2', rfl, rfl, rfl, hxb, HP', hm, HT⟩ := hrel
        by_cases hlx : x < b
        · have HS := Lib.hid (rowP_step 2 b a x)
          have HC := Lib.hid (show cellP 2 b a x = jumpP 2 a x b from rfl)
          go_wp2_with fail
          go_loopw [6, 7, 10] (fun u6 u7 u10 wr => ∃ (y p : Nat) (P2 : List (List Int × List Int)) (a1' : Option Addr) (c1' : Nat) (a2' : Option Addr) (c2' : Nat), u6 = .slice a1' p c1' ∧ u7 = .slice a2' p c2' ∧ u10 = .int .i64 y ∧ y ≤ b ∧ Hid (P2 = P' ++ jumpP 2 a x y) ∧ p ≤ m + y ∧ Hid (Prs w wr a1' p c1' a2' c2' P2)) (fun _ _ u10 _ => b - (intOf u10).toNat)
          case atStart => exact ⟨0, m, P', _, _, _, _, rfl, rfl, rfl, Nat.zero_le _, (List.append_nil P').symm, by omega, HT.out⟩
          case round =>
            clear HT
            obtain ⟨y, p, P2, b1, d1, b2, d2, rfl, rfl, rfl, hyb, HP2, hp, HT⟩ := hrel
            by_cases hly : y < b
            · by_cases hay : a = y
              · subst hay
                have HJ := Lib.hid (jumpP_no (k := 2) (a := a) (x := x) rfl)
                go_wp2_with fail
                exact ⟨⟨a + 1, p, P2, b1, d1, b2, d2, rfl, rfl, by go_num, by omega, by rw [Hid, HJ.out]; exact HP2.out, by omega, HT.out⟩, by simp [intOf]; omega⟩
              · have HJ := Lib.hid (jumpP_yes (k := 2) (x := x) hay)
                have hai : (a : Int) ≠ (y : Int) := int_ne hay
                have hlen := HT.out.len
                go_wp2_with (first
                  | (at_builtin; refine law_two w b1 p d1 b2 p d2 _ _ wr HT.out.t [(a : Int), x, y] _ rfl (by simp) rfl _ _ rfl _ rfl rfl rfl (by omega) ?_; intro ad cc w5 ht5; have HT5 := Lib.hid ht5; clear ht5)
                  | (at_builtin; refine law_two w b2 p d2 ad (p + 1) cc _ _ w5 HT5.out.flip [(y : Int), x, a] _ rfl (by simp) rfl _ _ rfl _ rfl rfl rfl (by omega) ?_; intro ad6 cc6 w6 ht6; have HT6 := Lib.hid ht6.flip; clear ht6))
                exact ⟨⟨y + 1, p + 1, P2 ++ [([(a : Int), x, y], [(y : Int), x, a])], ad, cc, ad6, cc6, rfl, rfl, by go_num, by omega, by rw [Hid, HJ.out, HP2.out, List.append_assoc]; rfl, by omega, Prs.snoc HT6.out hlen⟩, by simp [intOf]; omega⟩
            · obtain rfl : y = b := by omega
              go_wp2_with fail
              exact ⟨⟨x + 1, p, P2, b1, d1, b2, d2, rfl, rfl, by go_num, by omega, by rw [Hid, HS.out, HC.out, HP2.out, HP'.out, List.append_assoc], by omega, HT.out⟩, by simp [intOf]; omega⟩
        · obtain rfl : x = b := by omega
          go_wp2_with fail
          exact ⟨⟨a + 1, m, P', a1', c1', a2', c2', rfl, rfl, by go_num, by omega, by rw [Hid, wrP_step, HP'.out, HP.out], by omega, HT.out⟩, by simp [intOf]; omega⟩
    · obtain rfl : a = b := by omega
      go_wp2_with fail
      go_ret2
      have h := HT.out
      have e := h.len
      rw [HP.out] at h e
      subst e
      exact ⟨a1, c1, a2, c2, rfl, h⟩
set_option maxHeartbeats 4000000 in
theorem spec_wrong4 (b : Nat) (hb2 : 2 ≤ b) (hb : b ≤ 36) (w : World) : Calls Try.prog 64 #[.int .i64 b, .int .i64 4] w (RetPrs (wrP 4 b b) w) := by
  have H0 := Lib.hid (two_start w)
  go_enter Try.func64, Try.ntmps64
  go_wp2_with fail
  go_loopw [6, 7, 8] (fun u6 u7 u8 wr => ∃ (a n : Nat) (P : List (List Int × List Int)) (a1 : Option Addr) (c1 : Nat) (a2 : Option Addr) (c2 : Nat), u6 = .slice a1 n c1 ∧ u7 = .slice a2 n c2 ∧ u8 = .int .i64 a ∧ a ≤ b ∧ Hid (P = wrP 4 b a) ∧ n ≤ a * 2000 ∧ Hid (Prs w wr a1 n c1 a2 c2 P)) (fun _ _ u8 _ => b - (intOf u8).toNat)
  case atStart => exact ⟨0, 0, [], _, _, _, _, rfl, rfl, rfl, Nat.zero_le _, rfl, by omega, H0.out, rfl⟩
  case round =>
    clear H0
    obtain ⟨a, n, P, a1, c1, a2, c2, rfl, rfl, rfl, ha, HP, hn, HT⟩ := hrel
    by_cases hlt : a < b
    · go_wp2_with fail
      go_loopw [6, 7, 9] (fun u6 u7 u9 wr => ∃ (x m : Nat) (P' : List (List Int × List Int)) (a1' : Option Addr) (c1' : Nat) (a2' : Option Addr) (c2' : Nat), u6 = .slice a1' m c1' ∧ u7 = .slice a2' m c2' ∧ u9 = .int .i64 x ∧ x ≤ b ∧ Hid (P' = P ++ rowP 4 b a x) ∧ m ≤ n + x * 50 ∧ Hid (Prs w wr a1' m c1' a2' c2' P')) (fun _ _ u9 _ => b - (intOf u9).toNat)
      case atStart => exact ⟨0, n, P, _, _, _, _, rfl, rfl, rfl, Nat.zero_le _, (List.append_nil P).symm, by omega, HT.out⟩
      case round =>
        clear HT
        obtain ⟨x, m, P', a1', c1', a2', c2', rfl, rfl, rfl, hxb, HP', hm, HT⟩ := hrel
        by_cases hlx : x < b
        · have HS := Lib.hid (rowP_step 4 b a x)
          have HC := Lib.hid (show cellP 4 b a x = jumpP 4 a x b from rfl)
          go_wp2_with fail
          go_loopw [6, 7, 10] (fun u6 u7 u10 wr => ∃ (y p : Nat) (P2 : List (List Int × List Int)) (a1' : Option Addr) (c1' : Nat) (a2' : Option Addr) (c2' : Nat), u6 = .slice a1' p c1' ∧ u7 = .slice a2' p c2' ∧ u10 = .int .i64 y ∧ y ≤ b ∧ Hid (P2 = P' ++ jumpP 4 a x y) ∧ p ≤ m + y ∧ Hid (Prs w wr a1' p c1' a2' c2' P2)) (fun _ _ u10 _ => b - (intOf u10).toNat)
          case atStart => exact ⟨0, m, P', _, _, _, _, rfl, rfl, rfl, Nat.zero_le _, (List.append_nil P').symm, by omega, HT.out⟩
          case round =>
            clear HT
            obtain ⟨y, p, P2, b1, d1, b2, d2, rfl, rfl, rfl, hyb, HP2, hp, HT⟩ := hrel
            by_cases hly : y < b
            · by_cases hay : a = y
              · subst hay
                have HJ := Lib.hid (jumpP_no (k := 4) (a := a) (x := x) rfl)
                go_wp2_with fail
                exact ⟨⟨a + 1, p, P2, b1, d1, b2, d2, rfl, rfl, by go_num, by omega, by rw [Hid, HJ.out]; exact HP2.out, by omega, HT.out⟩, by simp [intOf]; omega⟩
              · have HJ := Lib.hid (jumpP_yes (k := 4) (x := x) hay)
                have hai : (a : Int) ≠ (y : Int) := int_ne hay
                have hlen := HT.out.len
                go_wp2_with (first
                  | (at_builtin; refine law_two w b1 p d1 b2 p d2 _ _ wr HT.out.t [(a : Int), x, a] _ rfl (by simp) rfl _ _ rfl _ rfl rfl rfl (by omega) ?_; intro ad cc w5 ht5; have HT5 := Lib.hid ht5; clear ht5)
                  | (at_builtin; refine law_two w b2 p d2 ad (p + 1) cc _ _ w5 HT5.out.flip [(y : Int), x, y] _ rfl (by simp) rfl _ _ rfl _ rfl rfl rfl (by omega) ?_; intro ad6 cc6 w6 ht6; have HT6 := Lib.hid ht6.flip; clear ht6))
                exact ⟨⟨y + 1, p + 1, P2 ++ [([(a : Int), x, a], [(y : Int), x, y])], ad, cc, ad6, cc6, rfl, rfl, by go_num, by omega, by rw [Hid, HJ.out, HP2.out, List.append_assoc]; rfl, by omega, Prs.snoc HT6.out hlen⟩, by simp [intOf]; omega⟩
            · obtain rfl : y = b := by omega
              go_wp2_with fail
              exact ⟨⟨x + 1, p, P2, b1, d1, b2, d2, rfl, rfl, by go_num, by omega, by rw [Hid, HS.out, HC.out, HP2.out, HP'.out, List.append_assoc], by omega, HT.out⟩, by simp [intOf]; omega⟩
        · obtain rfl : x = b := by omega
          go_wp2_with fail
          exact ⟨⟨a + 1, m, P', a1', c1', a2', c2', rfl, rfl, by go_num, by omega, by rw [Hid, wrP_step, HP'.out, HP.out], by omega, HT.out⟩, by simp [intOf]; omega⟩
    · obtain rfl : a = b := by omega
      go_wp2_with fail
      go_ret2
      have h := HT.out
      have e := h.len
      rw [HP.out] at h e
      subst e
      exact ⟨a1, c1, a2, c2, rfl, h⟩
end Go.Proofs.Ytbcfbkhbangeoaa
