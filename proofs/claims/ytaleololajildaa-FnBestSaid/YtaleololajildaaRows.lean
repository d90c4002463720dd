/-
  No cell of these rows narrows 'for every input' (looked for: loops, veiled, ifaces, maps, wideKeys, modest, calm, conditions, laid).
  DERIVED. THE GIVEN ROWS OF THIS SEAT. 5 by the template 'for every input the law returns true; each argument reads behind the call as it read before'; 0 by the template 'total and deterministic' (their statements: YtaleololajildaaTotals.lean).
  GIVEN WITH THE SEED: the statements are not yours to turn. If you find one false, say at which input.
  Laid BY PROGRAM, IN A SANDBOX (cutbox-rows.mjs): the forced cells as the released guide's own fill.sh prints them over the translation 65ac2461abbac3a7… (all of the seat's roots in one cut). By AI agents, Wed Nov 11 2026. No macro, syntax, notation, axiom, sorry.
-/
import Derived.Test.YtaleololajildaaChecked
import GoSem.Claim
import GoSem.ClaimJoined
import GoSem.ClaimMapViews
import Derived.JoinedTies
import Derived.KernelRfl
namespace Go.Proofs.Ytaleololajildaa
/- THE CELL 'sum', in the pinned program and in every row, IS THE sha256 OF THE DUMP (.gsa) THAT YtaleololajildaaProg.lean LOADS. Nothing in Lean hashes anything: it is a label: what it is worth is what the hold of that sum in a sandbox is worth. -/
noncomputable def Try.pinned : Pinned := { name := "ytaleololajildaa", sum := "65ac2461abbac3a71a38a618a1810d0d0c5f5b79497b0aa5a49a8f9294729b57", checked := Try.checked }
namespace Rows
def none {H : Type} : Left H := { results := [], args := [] }

/-- 'laws.FnExactIsCosts': WHATEVER THE INPUT: true; the input reads as it did. -/
def fnExactIsCostsSpec : ChangeSpec := { name := "fnExactIsCosts", fn := fun _ => fun
  | [d] => { results := [.lit (.bool true)], args := [d] }
  | _ => none }
def fnExactIsCostsRow : OpenClaim := { program := "ytaleololajildaa", sum := "65ac2461abbac3a71a38a618a1810d0d0c5f5b79497b0aa5a49a8f9294729b57", func := "loop.example/g01130/laws.FnExactIsCosts", spec := "fnExactIsCosts", unfollowed := true, recurses := true, apart := false }
def FnExactIsCostsSaid : Prop := fnExactIsCostsRow.holds Try.pinned (OpenSpec.ofChange fnExactIsCostsSpec)

/-- ITS FALSE NEIGHBOUR: 'it returns false'. Refute it at one input. -/
def fnExactIsCostsWrong : ChangeSpec := { name := "fnExactIsCosts", fn := fun _ => fun
  | [d] => { results := [.lit (.bool false)], args := [d] }
  | _ => none }
def FnExactIsCostsWrongFalsely : Prop := fnExactIsCostsRow.holds Try.pinned (OpenSpec.ofChange fnExactIsCostsWrong)

/-- 'laws.FnExactWeightSum': WHATEVER THE INPUT: true; the input reads as it did. -/
def fnExactWeightSumSpec : ChangeSpec := { name := "fnExactWeightSum", fn := fun _ => fun
  | [d1, d2] => { results := [.lit (.bool true)], args := [d1, d2] }
  | _ => none }
def fnExactWeightSumRow : OpenClaim := { program := "ytaleololajildaa", sum := "65ac2461abbac3a71a38a618a1810d0d0c5f5b79497b0aa5a49a8f9294729b57", func := "loop.example/g01130/laws.FnExactWeightSum", spec := "fnExactWeightSum", inPlace := ["internal/bytealg.IndexByteString"], unfollowed := true, recurses := true, apart := false }
def FnExactWeightSumSaid : Prop := fnExactWeightSumRow.holds Try.pinned (OpenSpec.ofChange fnExactWeightSumSpec)

/-- ITS FALSE NEIGHBOUR: 'it returns false'. Refute it at one input. -/
def fnExactWeightSumWrong : ChangeSpec := { name := "fnExactWeightSum", fn := fun _ => fun
  | [d1, d2] => { results := [.lit (.bool false)], args := [d1, d2] }
  | _ => none }
def FnExactWeightSumWrongFalsely : Prop := fnExactWeightSumRow.holds Try.pinned (OpenSpec.ofChange fnExactWeightSumWrong)

/-- 'laws.FnBest': WHATEVER THE INPUT: true; the input reads as it did. -/
def fnBestSpec : ChangeSpec := { name := "fnBest", fn := fun _ => fun
  | [d1, d2] => { results := [.lit (.bool true)], args := [d1, d2] }
  | _ => none }
def fnBestRow : OpenClaim := { program := "ytaleololajildaa", sum := "65ac2461abbac3a71a38a618a1810d0d0c5f5b79497b0aa5a49a8f9294729b57", func := "loop.example/g01130/laws.FnBest", spec := "fnBest", unfollowed := true, recurses := true, apart := false }
def FnBestSaid : Prop := fnBestRow.holds Try.pinned (OpenSpec.ofChange fnBestSpec)

/-- ITS FALSE NEIGHBOUR: 'it returns false'. Refute it at one input. -/
def fnBestWrong : ChangeSpec := { name := "fnBest", fn := fun _ => fun
  | [d1, d2] => { results := [.lit (.bool false)], args := [d1, d2] }
  | _ => none }
def FnBestWrongFalsely : Prop := fnBestRow.holds Try.pinned (OpenSpec.ofChange fnBestWrong)

/-- 'laws.FnExactWorstPlace': WHATEVER THE INPUT: true; the input reads as it did. -/
def fnExactWorstPlaceSpec : ChangeSpec := { name := "fnExactWorstPlace", fn := fun _ => fun
  | [d1, d2] => { results := [.lit (.bool true)], args := [d1, d2] }
  | _ => none }
def fnExactWorstPlaceRow : OpenClaim := { program := "ytaleololajildaa", sum := "65ac2461abbac3a71a38a618a1810d0d0c5f5b79497b0aa5a49a8f9294729b57", func := "loop.example/g01130/laws.FnExactWorstPlace", spec := "fnExactWorstPlace", unfollowed := true, recurses := true, apart := false }
def FnExactWorstPlaceSaid : Prop := fnExactWorstPlaceRow.holds Try.pinned (OpenSpec.ofChange fnExactWorstPlaceSpec)

/-- ITS FALSE NEIGHBOUR: 'it returns false'. Refute it at one input. -/
def fnExactWorstPlaceWrong : ChangeSpec := { name := "fnExactWorstPlace", fn := fun _ => fun
  | [d1, d2] => { results := [.lit (.bool false)], args := [d1, d2] }
  | _ => none }
def FnExactWorstPlaceWrongFalsely : Prop := fnExactWorstPlaceRow.holds Try.pinned (OpenSpec.ofChange fnExactWorstPlaceWrong)

/-- 'laws.FnExactScoreOf': WHATEVER THE INPUT: true; the input reads as it did. -/
def fnExactScoreOfSpec : ChangeSpec := { name := "fnExactScoreOf", fn := fun _ => fun
  | [d1, d2] => { results := [.lit (.bool true)], args := [d1, d2] }
  | _ => none }
def fnExactScoreOfRow : OpenClaim := { program := "ytaleololajildaa", sum := "65ac2461abbac3a71a38a618a1810d0d0c5f5b79497b0aa5a49a8f9294729b57", func := "loop.example/g01130/laws.FnExactScoreOf", spec := "fnExactScoreOf", unfollowed := true, recurses := true, apart := false }
def FnExactScoreOfSaid : Prop := fnExactScoreOfRow.holds Try.pinned (OpenSpec.ofChange fnExactScoreOfSpec)

/-- ITS FALSE NEIGHBOUR: 'it returns false'. Refute it at one input. -/
def fnExactScoreOfWrong : ChangeSpec := { name := "fnExactScoreOf", fn := fun _ => fun
  | [d1, d2] => { results := [.lit (.bool false)], args := [d1, d2] }
  | _ => none }
def FnExactScoreOfWrongFalsely : Prop := fnExactScoreOfRow.holds Try.pinned (OpenSpec.ofChange fnExactScoreOfWrong)

/- THE SECOND FORM. 'bulk': how many values and letters a reading holds, each counted each time it is reached (what is shared counts as often as it is met; a slice's spare places count too). A statement '..UptoSaid' is the law's where the arguments, and the package variables that the reading takes, are together of bulk at most 1048576: NARROWER than '..Said'. Prove '..Said' where nothing that the law and all that it calls make is longer than what came in: it says more and counts as full. Else prove '..UptoSaid'. A law counts once. -/
mutual
def uptoBulk {H : Type} : DataW H → Nat
  | .lit (.string bytes) => bytes.length + 1
  | .lit _ => 1
  | .nil => 1
  | .ptr d => uptoBulk d + 1
  | .slice elems spare => uptoBulkAll elems + uptoBulkAll spare + 1
  | .agg parts => uptoBulkAll parts + 1
  | .iface _ d => uptoBulk d + 1
  | .map entries => uptoBulkEntries entries + 1
  | .held _ => 1
def uptoBulkAll {H : Type} : List (DataW H) → Nat
  | [] => 0
  | d :: r => uptoBulk d + uptoBulkAll r
def uptoBulkEntries {H : Type} : List (Lit × DataW H) → Nat
  | [] => 0
  | x :: r => uptoBulkEntry x + uptoBulkEntries r
def uptoBulkEntry {H : Type} : Lit × DataW H → Nat
  | (.string bytes, d) => bytes.length + uptoBulk d + 1
  | (_, d) => uptoBulk d + 1
 end
def uptoSmall : (H : Type) → List (DataW H) → Bool := fun _ ds => decide (uptoBulkAll ds ≤ 1048576)
def OpenSpec.upto (s : _root_.Go.ChangeSpec) : _root_.Go.OpenSpec := { _root_.Go.OpenSpec.ofChange s with cond := some uptoSmall }

/-- 'laws.FnExactIsCosts', WHERE WHAT IT READS IS OF BULK AT MOST 1048576: true; the input reads as it did. -/
def fnExactIsCostsUptoRow : OpenClaim := { program := "ytaleololajildaa", sum := "65ac2461abbac3a71a38a618a1810d0d0c5f5b79497b0aa5a49a8f9294729b57", func := "loop.example/g01130/laws.FnExactIsCosts", spec := "fnExactIsCosts", unfollowed := true, recurses := true, apart := false, narrowed := true }
def FnExactIsCostsUptoSaid : Prop := fnExactIsCostsUptoRow.holds Try.pinned (OpenSpec.upto fnExactIsCostsSpec)

/-- 'laws.FnExactWeightSum', WHERE WHAT IT READS IS OF BULK AT MOST 1048576: true; the input reads as it did. -/
def fnExactWeightSumUptoRow : OpenClaim := { program := "ytaleololajildaa", sum := "65ac2461abbac3a71a38a618a1810d0d0c5f5b79497b0aa5a49a8f9294729b57", func := "loop.example/g01130/laws.FnExactWeightSum", spec := "fnExactWeightSum", inPlace := ["internal/bytealg.IndexByteString"], unfollowed := true, recurses := true, apart := false, narrowed := true }
def FnExactWeightSumUptoSaid : Prop := fnExactWeightSumUptoRow.holds Try.pinned (OpenSpec.upto fnExactWeightSumSpec)

/-- 'laws.FnBest', WHERE WHAT IT READS IS OF BULK AT MOST 1048576: true; the input reads as it did. -/
def fnBestUptoRow : OpenClaim := { program := "ytaleololajildaa", sum := "65ac2461abbac3a71a38a618a1810d0d0c5f5b79497b0aa5a49a8f9294729b57", func := "loop.example/g01130/laws.FnBest", spec := "fnBest", unfollowed := true, recurses := true, apart := false, narrowed := true }
def FnBestUptoSaid : Prop := fnBestUptoRow.holds Try.pinned (OpenSpec.upto fnBestSpec)

/-- 'laws.FnExactWorstPlace', WHERE WHAT IT READS IS OF BULK AT MOST 1048576: true; the input reads as it did. -/
def fnExactWorstPlaceUptoRow : OpenClaim := { program := "ytaleololajildaa", sum := "65ac2461abbac3a71a38a618a1810d0d0c5f5b79497b0aa5a49a8f9294729b57", func := "loop.example/g01130/laws.FnExactWorstPlace", spec := "fnExactWorstPlace", unfollowed := true, recurses := true, apart := false, narrowed := true }
def FnExactWorstPlaceUptoSaid : Prop := fnExactWorstPlaceUptoRow.holds Try.pinned (OpenSpec.upto fnExactWorstPlaceSpec)

/-- 'laws.FnExactScoreOf', WHERE WHAT IT READS IS OF BULK AT MOST 1048576: true; the input reads as it did. -/
def fnExactScoreOfUptoRow : OpenClaim := { program := "ytaleololajildaa", sum := "65ac2461abbac3a71a38a618a1810d0d0c5f5b79497b0aa5a49a8f9294729b57", func := "loop.example/g01130/laws.FnExactScoreOf", spec := "fnExactScoreOf", unfollowed := true, recurses := true, apart := false, narrowed := true }
def FnExactScoreOfUptoSaid : Prop := fnExactScoreOfUptoRow.holds Try.pinned (OpenSpec.upto fnExactScoreOfSpec)

end Rows
end Go.Proofs.Ytaleololajildaa
