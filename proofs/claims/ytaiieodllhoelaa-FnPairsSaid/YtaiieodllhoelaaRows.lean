/-
  No cell of these rows narrows 'for every input' (looked for: loops, veiled, ifaces, maps, wideKeys, modest, calm, conditions, laid).
  DERIVED. THE GIVEN ROWS OF THIS SEAT. 12 by the template 'for every input the law returns true; each argument reads behind the call as it read before'; 0 by the template 'total and deterministic' (their statements: YtaiieodllhoelaaTotals.lean).
  GIVEN WITH THE SEED: the statements are not yours to turn. If you find one false, say at which input.
  Laid BY PROGRAM, IN A SANDBOX (cutbox-rows.mjs): the forced cells as the released guide's own fill.sh prints them over the translation f8f8403ff7cffe10… (all of the seat's roots in one cut). By AI agents, Wed Nov 11 2026. No macro, syntax, notation, axiom, sorry.
-/
import Derived.Test.YtaiieodllhoelaaChecked
import GoSem.Claim
import GoSem.ClaimJoined
import GoSem.ClaimMapViews
import Derived.JoinedTies
import Derived.KernelRfl
namespace Go.Proofs.Ytaiieodllhoelaa
/- THE CELL 'sum', in the pinned program and in every row, IS THE sha256 OF THE DUMP (.gsa) THAT YtaiieodllhoelaaProg.lean LOADS. Nothing in Lean hashes anything: it is a label: what it is worth is what the hold of that sum in a sandbox is worth. -/
noncomputable def Try.pinned : Pinned := { name := "ytaiieodllhoelaa", sum := "f8f8403ff7cffe101bde308df92c29af2da6c2136885efddec8742b6a870a9f6", checked := Try.checked }
namespace Rows
def none {H : Type} : Left H := { results := [], args := [] }

/-- 'laws.FnRanked': WHATEVER THE INPUT: true; the input reads as it did. -/
def fnRankedSpec : ChangeSpec := { name := "fnRanked", fn := fun _ => fun
  | [d1, d2] => { results := [.lit (.bool true)], args := [d1, d2] }
  | _ => none }
def fnRankedRow : OpenClaim := { program := "ytaiieodllhoelaa", sum := "f8f8403ff7cffe101bde308df92c29af2da6c2136885efddec8742b6a870a9f6", func := "loop.example/g01130/laws.FnRanked", spec := "fnRanked", inPlace := ["internal/bytealg.IndexByteString"], unfollowed := true, recurses := true, plainKeys := false, apart := false }
def FnRankedSaid : Prop := fnRankedRow.holds Try.pinned (OpenSpec.ofChange fnRankedSpec)

/-- ITS FALSE NEIGHBOUR: 'it returns false'. Refute it at one input. -/
def fnRankedWrong : ChangeSpec := { name := "fnRanked", fn := fun _ => fun
  | [d1, d2] => { results := [.lit (.bool false)], args := [d1, d2] }
  | _ => none }
def FnRankedWrongFalsely : Prop := fnRankedRow.holds Try.pinned (OpenSpec.ofChange fnRankedWrong)

/-- 'laws.FnJoined': WHATEVER THE INPUT: true; the input reads as it did. -/
def fnJoinedSpec : ChangeSpec := { name := "fnJoined", fn := fun _ => fun
  | [d1, d2] => { results := [.lit (.bool true)], args := [d1, d2] }
  | _ => none }
def fnJoinedRow : OpenClaim := { program := "ytaiieodllhoelaa", sum := "f8f8403ff7cffe101bde308df92c29af2da6c2136885efddec8742b6a870a9f6", func := "loop.example/g01130/laws.FnJoined", spec := "fnJoined", inPlace := ["internal/bytealg.IndexByteString"], unfollowed := true, recurses := true, plainKeys := false, apart := false }
def FnJoinedSaid : Prop := fnJoinedRow.holds Try.pinned (OpenSpec.ofChange fnJoinedSpec)

/-- ITS FALSE NEIGHBOUR: 'it returns false'. Refute it at one input. -/
def fnJoinedWrong : ChangeSpec := { name := "fnJoined", fn := fun _ => fun
  | [d1, d2] => { results := [.lit (.bool false)], args := [d1, d2] }
  | _ => none }
def FnJoinedWrongFalsely : Prop := fnJoinedRow.holds Try.pinned (OpenSpec.ofChange fnJoinedWrong)

/-- 'laws.FnExactRunChain': WHATEVER THE INPUT: true; the input reads as it did. -/
def fnExactRunChainSpec : ChangeSpec := { name := "fnExactRunChain", fn := fun _ => fun
  | [d1, d2] => { results := [.lit (.bool true)], args := [d1, d2] }
  | _ => none }
def fnExactRunChainRow : OpenClaim := { program := "ytaiieodllhoelaa", sum := "f8f8403ff7cffe101bde308df92c29af2da6c2136885efddec8742b6a870a9f6", func := "loop.example/g01130/laws.FnExactRunChain", spec := "fnExactRunChain", inPlace := ["internal/bytealg.IndexByteString"], unfollowed := true, recurses := true, plainKeys := false, apart := false }
def FnExactRunChainSaid : Prop := fnExactRunChainRow.holds Try.pinned (OpenSpec.ofChange fnExactRunChainSpec)

/-- ITS FALSE NEIGHBOUR: 'it returns false'. Refute it at one input. -/
def fnExactRunChainWrong : ChangeSpec := { name := "fnExactRunChain", fn := fun _ => fun
  | [d1, d2] => { results := [.lit (.bool false)], args := [d1, d2] }
  | _ => none }
def FnExactRunChainWrongFalsely : Prop := fnExactRunChainRow.holds Try.pinned (OpenSpec.ofChange fnExactRunChainWrong)

/-- 'laws.FnExactIsChecked': WHATEVER THE INPUT: true; the input reads as it did. -/
def fnExactIsCheckedSpec : ChangeSpec := { name := "fnExactIsChecked", fn := fun _ => fun
  | [d1, d2] => { results := [.lit (.bool true)], args := [d1, d2] }
  | _ => none }
def fnExactIsCheckedRow : OpenClaim := { program := "ytaiieodllhoelaa", sum := "f8f8403ff7cffe101bde308df92c29af2da6c2136885efddec8742b6a870a9f6", func := "loop.example/g01130/laws.FnExactIsChecked", spec := "fnExactIsChecked", inPlace := ["internal/bytealg.IndexByteString"], unfollowed := true, recurses := true, plainKeys := false, apart := false }
def FnExactIsCheckedSaid : Prop := fnExactIsCheckedRow.holds Try.pinned (OpenSpec.ofChange fnExactIsCheckedSpec)

/-- ITS FALSE NEIGHBOUR: 'it returns false'. Refute it at one input. -/
def fnExactIsCheckedWrong : ChangeSpec := { name := "fnExactIsChecked", fn := fun _ => fun
  | [d1, d2] => { results := [.lit (.bool false)], args := [d1, d2] }
  | _ => none }
def FnExactIsCheckedWrongFalsely : Prop := fnExactIsCheckedRow.holds Try.pinned (OpenSpec.ofChange fnExactIsCheckedWrong)

/-- 'laws.FnExactCheckSymbols': WHATEVER THE INPUT: true; the input reads as it did. -/
def fnExactCheckSymbolsSpec : ChangeSpec := { name := "fnExactCheckSymbols", fn := fun _ => fun
  | [d1, d2, d3] => { results := [.lit (.bool true)], args := [d1, d2, d3] }
  | _ => none }
def fnExactCheckSymbolsRow : OpenClaim := { program := "ytaiieodllhoelaa", sum := "f8f8403ff7cffe101bde308df92c29af2da6c2136885efddec8742b6a870a9f6", func := "loop.example/g01130/laws.FnExactCheckSymbols", spec := "fnExactCheckSymbols", inPlace := ["internal/bytealg.IndexByteString"], unfollowed := true, recurses := true, plainKeys := false, apart := false }
def FnExactCheckSymbolsSaid : Prop := fnExactCheckSymbolsRow.holds Try.pinned (OpenSpec.ofChange fnExactCheckSymbolsSpec)

/-- ITS FALSE NEIGHBOUR: 'it returns false'. Refute it at one input. -/
def fnExactCheckSymbolsWrong : ChangeSpec := { name := "fnExactCheckSymbols", fn := fun _ => fun
  | [d1, d2, d3] => { results := [.lit (.bool false)], args := [d1, d2, d3] }
  | _ => none }
def FnExactCheckSymbolsWrongFalsely : Prop := fnExactCheckSymbolsRow.holds Try.pinned (OpenSpec.ofChange fnExactCheckSymbolsWrong)

/-- 'laws.FnExactRankOfWord': WHATEVER THE INPUT: true; the input reads as it did. -/
def fnExactRankOfWordSpec : ChangeSpec := { name := "fnExactRankOfWord", fn := fun _ => fun
  | [d1, d2] => { results := [.lit (.bool true)], args := [d1, d2] }
  | _ => none }
def fnExactRankOfWordRow : OpenClaim := { program := "ytaiieodllhoelaa", sum := "f8f8403ff7cffe101bde308df92c29af2da6c2136885efddec8742b6a870a9f6", func := "loop.example/g01130/laws.FnExactRankOfWord", spec := "fnExactRankOfWord", inPlace := ["internal/bytealg.IndexByteString"], unfollowed := true, recurses := true, plainKeys := false, apart := false }
def FnExactRankOfWordSaid : Prop := fnExactRankOfWordRow.holds Try.pinned (OpenSpec.ofChange fnExactRankOfWordSpec)

/-- ITS FALSE NEIGHBOUR: 'it returns false'. Refute it at one input. -/
def fnExactRankOfWordWrong : ChangeSpec := { name := "fnExactRankOfWord", fn := fun _ => fun
  | [d1, d2] => { results := [.lit (.bool false)], args := [d1, d2] }
  | _ => none }
def FnExactRankOfWordWrongFalsely : Prop := fnExactRankOfWordRow.holds Try.pinned (OpenSpec.ofChange fnExactRankOfWordWrong)

/-- 'laws.FnExactPairChain': WHATEVER THE INPUT: true; the input reads as it did. -/
def fnExactPairChainSpec : ChangeSpec := { name := "fnExactPairChain", fn := fun _ => fun
  | [d1, d2, d3] => { results := [.lit (.bool true)], args := [d1, d2, d3] }
  | _ => none }
def fnExactPairChainRow : OpenClaim := { program := "ytaiieodllhoelaa", sum := "f8f8403ff7cffe101bde308df92c29af2da6c2136885efddec8742b6a870a9f6", func := "loop.example/g01130/laws.FnExactPairChain", spec := "fnExactPairChain", unfollowed := true, recurses := true, plainKeys := false, apart := false }
def FnExactPairChainSaid : Prop := fnExactPairChainRow.holds Try.pinned (OpenSpec.ofChange fnExactPairChainSpec)

/-- ITS FALSE NEIGHBOUR: 'it returns false'. Refute it at one input. -/
def fnExactPairChainWrong : ChangeSpec := { name := "fnExactPairChain", fn := fun _ => fun
  | [d1, d2, d3] => { results := [.lit (.bool false)], args := [d1, d2, d3] }
  | _ => none }
def FnExactPairChainWrongFalsely : Prop := fnExactPairChainRow.holds Try.pinned (OpenSpec.ofChange fnExactPairChainWrong)

/-- 'laws.FnExactPairDistance': WHATEVER THE INPUT: true; the input reads as it did. -/
def fnExactPairDistanceSpec : ChangeSpec := { name := "fnExactPairDistance", fn := fun _ => fun
  | [d1, d2, d3] => { results := [.lit (.bool true)], args := [d1, d2, d3] }
  | _ => none }
def fnExactPairDistanceRow : OpenClaim := { program := "ytaiieodllhoelaa", sum := "f8f8403ff7cffe101bde308df92c29af2da6c2136885efddec8742b6a870a9f6", func := "loop.example/g01130/laws.FnExactPairDistance", spec := "fnExactPairDistance", unfollowed := true, recurses := true, plainKeys := false, apart := false }
def FnExactPairDistanceSaid : Prop := fnExactPairDistanceRow.holds Try.pinned (OpenSpec.ofChange fnExactPairDistanceSpec)

/-- ITS FALSE NEIGHBOUR: 'it returns false'. Refute it at one input. -/
def fnExactPairDistanceWrong : ChangeSpec := { name := "fnExactPairDistance", fn := fun _ => fun
  | [d1, d2, d3] => { results := [.lit (.bool false)], args := [d1, d2, d3] }
  | _ => none }
def FnExactPairDistanceWrongFalsely : Prop := fnExactPairDistanceRow.holds Try.pinned (OpenSpec.ofChange fnExactPairDistanceWrong)

/-- 'laws.FnExactCorrectPair': WHATEVER THE INPUT: true; the input reads as it did. -/
def fnExactCorrectPairSpec : ChangeSpec := { name := "fnExactCorrectPair", fn := fun _ => fun
  | [d1, d2, d3, d4] => { results := [.lit (.bool true)], args := [d1, d2, d3, d4] }
  | _ => none }
def fnExactCorrectPairRow : OpenClaim := { program := "ytaiieodllhoelaa", sum := "f8f8403ff7cffe101bde308df92c29af2da6c2136885efddec8742b6a870a9f6", func := "loop.example/g01130/laws.FnExactCorrectPair", spec := "fnExactCorrectPair", inPlace := ["internal/bytealg.IndexByteString"], unfollowed := true, recurses := true, plainKeys := false, apart := false }
def FnExactCorrectPairSaid : Prop := fnExactCorrectPairRow.holds Try.pinned (OpenSpec.ofChange fnExactCorrectPairSpec)

/-- ITS FALSE NEIGHBOUR: 'it returns false'. Refute it at one input. -/
def fnExactCorrectPairWrong : ChangeSpec := { name := "fnExactCorrectPair", fn := fun _ => fun
  | [d1, d2, d3, d4] => { results := [.lit (.bool false)], args := [d1, d2, d3, d4] }
  | _ => none }
def FnExactCorrectPairWrongFalsely : Prop := fnExactCorrectPairRow.holds Try.pinned (OpenSpec.ofChange fnExactCorrectPairWrong)

/-- 'laws.FnPairs': WHATEVER THE INPUT: true; the input reads as it did. -/
def fnPairsSpec : ChangeSpec := { name := "fnPairs", fn := fun _ => fun
  | [d1, d2] => { results := [.lit (.bool true)], args := [d1, d2] }
  | _ => none }
def fnPairsRow : OpenClaim := { program := "ytaiieodllhoelaa", sum := "f8f8403ff7cffe101bde308df92c29af2da6c2136885efddec8742b6a870a9f6", func := "loop.example/g01130/laws.FnPairs", spec := "fnPairs", inPlace := ["internal/bytealg.IndexByteString"], unfollowed := true, recurses := true, plainKeys := false, apart := false }
def FnPairsSaid : Prop := fnPairsRow.holds Try.pinned (OpenSpec.ofChange fnPairsSpec)

/-- ITS FALSE NEIGHBOUR: 'it returns false'. Refute it at one input. -/
def fnPairsWrong : ChangeSpec := { name := "fnPairs", fn := fun _ => fun
  | [d1, d2] => { results := [.lit (.bool false)], args := [d1, d2] }
  | _ => none }
def FnPairsWrongFalsely : Prop := fnPairsRow.holds Try.pinned (OpenSpec.ofChange fnPairsWrong)

/-- 'laws.FnCounted': WHATEVER THE INPUT: true; the input reads as it did. -/
def fnCountedSpec : ChangeSpec := { name := "fnCounted", fn := fun _ => fun
  | [d1, d2] => { results := [.lit (.bool true)], args := [d1, d2] }
  | _ => none }
def fnCountedRow : OpenClaim := { program := "ytaiieodllhoelaa", sum := "f8f8403ff7cffe101bde308df92c29af2da6c2136885efddec8742b6a870a9f6", func := "loop.example/g01130/laws.FnCounted", spec := "fnCounted", inPlace := ["internal/bytealg.IndexByteString"], unfollowed := true, recurses := true, plainKeys := false, apart := false }
def FnCountedSaid : Prop := fnCountedRow.holds Try.pinned (OpenSpec.ofChange fnCountedSpec)

/-- ITS FALSE NEIGHBOUR: 'it returns false'. Refute it at one input. -/
def fnCountedWrong : ChangeSpec := { name := "fnCounted", fn := fun _ => fun
  | [d1, d2] => { results := [.lit (.bool false)], args := [d1, d2] }
  | _ => none }
def FnCountedWrongFalsely : Prop := fnCountedRow.holds Try.pinned (OpenSpec.ofChange fnCountedWrong)

/-- 'laws.FnKnown': WHATEVER THE INPUT: true; the input reads as it did. -/
def fnKnownSpec : ChangeSpec := { name := "fnKnown", fn := fun _ => fun
  | [d1, d2] => { results := [.lit (.bool true)], args := [d1, d2] }
  | _ => none }
def fnKnownRow : OpenClaim := { program := "ytaiieodllhoelaa", sum := "f8f8403ff7cffe101bde308df92c29af2da6c2136885efddec8742b6a870a9f6", func := "loop.example/g01130/laws.FnKnown", spec := "fnKnown", inPlace := ["internal/bytealg.IndexByteString"], unfollowed := true, recurses := true, plainKeys := false, apart := false }
def FnKnownSaid : Prop := fnKnownRow.holds Try.pinned (OpenSpec.ofChange fnKnownSpec)

/-- ITS FALSE NEIGHBOUR: 'it returns false'. Refute it at one input. -/
def fnKnownWrong : ChangeSpec := { name := "fnKnown", fn := fun _ => fun
  | [d1, d2] => { results := [.lit (.bool false)], args := [d1, d2] }
  | _ => none }
def FnKnownWrongFalsely : Prop := fnKnownRow.holds Try.pinned (OpenSpec.ofChange fnKnownWrong)

/- THE SECOND FORM. 'bulk': how many values and letters a reading holds, each counted each time it is reached (what is shared counts as often as it is met; a slice's spare places count too). A statement '..UptoSaid' is the law's where the arguments, and the package variables that the reading takes, are together of bulk at most 1048576: NARROWER than '..Said'. Prove '..Said' where nothing that the law and all that it calls make is longer than what came in: it says more and counts as full. Else prove '..UptoSaid'. A law counts once. -/
mutual
def uptoBulk {H : Type} : DataW H → Nat
  | .lit (.string bytes) => bytes.length + 1
  | .lit _ => 1
  | .nil => 1
  | .ptr d => uptoBulk d + 1
  | .slice elems spare => uptoBulkAll elems + uptoBulkAll spare + 1
  | .agg parts => uptoBulkAll parts + 1
  | .iface _ d => uptoBulk d + 1
  | .map entries => uptoBulkEntries entries + 1
  | .held _ => 1
def uptoBulkAll {H : Type} : List (DataW H) → Nat
  | [] => 0
  | d :: r => uptoBulk d + uptoBulkAll r
def uptoBulkEntries {H : Type} : List (Lit × DataW H) → Nat
  | [] => 0
  | x :: r => uptoBulkEntry x + uptoBulkEntries r
def uptoBulkEntry {H : Type} : Lit × DataW H → Nat
  | (.string bytes, d) => bytes.length + uptoBulk d + 1
  | (_, d) => uptoBulk d + 1
 end
def uptoSmall : (H : Type) → List (DataW H) → Bool := fun _ ds => decide (uptoBulkAll ds ≤ 1048576)
def OpenSpec.upto (s : _root_.Go.ChangeSpec) : _root_.Go.OpenSpec := { _root_.Go.OpenSpec.ofChange s with cond := some uptoSmall }

/-- 'laws.FnRanked', WHERE WHAT IT READS IS OF BULK AT MOST 1048576: true; the input reads as it did. -/
def fnRankedUptoRow : OpenClaim := { program := "ytaiieodllhoelaa", sum := "f8f8403ff7cffe101bde308df92c29af2da6c2136885efddec8742b6a870a9f6", func := "loop.example/g01130/laws.FnRanked", spec := "fnRanked", inPlace := ["internal/bytealg.IndexByteString"], unfollowed := true, recurses := true, plainKeys := false, apart := false, narrowed := true }
def FnRankedUptoSaid : Prop := fnRankedUptoRow.holds Try.pinned (OpenSpec.upto fnRankedSpec)

/-- 'laws.FnJoined', WHERE WHAT IT READS IS OF BULK AT MOST 1048576: true; the input reads as it did. -/
def fnJoinedUptoRow : OpenClaim := { program := "ytaiieodllhoelaa", sum := "f8f8403ff7cffe101bde308df92c29af2da6c2136885efddec8742b6a870a9f6", func := "loop.example/g01130/laws.FnJoined", spec := "fnJoined", inPlace := ["internal/bytealg.IndexByteString"], unfollowed := true, recurses := true, plainKeys := false, apart := false, narrowed := true }
def FnJoinedUptoSaid : Prop := fnJoinedUptoRow.holds Try.pinned (OpenSpec.upto fnJoinedSpec)

/-- 'laws.FnExactRunChain', WHERE WHAT IT READS IS OF BULK AT MOST 1048576: true; the input reads as it did. -/
def fnExactRunChainUptoRow : OpenClaim := { program := "ytaiieodllhoelaa", sum := "f8f8403ff7cffe101bde308df92c29af2da6c2136885efddec8742b6a870a9f6", func := "loop.example/g01130/laws.FnExactRunChain", spec := "fnExactRunChain", inPlace := ["internal/bytealg.IndexByteString"], unfollowed := true, recurses := true, plainKeys := false, apart := false, narrowed := true }
def FnExactRunChainUptoSaid : Prop := fnExactRunChainUptoRow.holds Try.pinned (OpenSpec.upto fnExactRunChainSpec)

/-- 'laws.FnExactIsChecked', WHERE WHAT IT READS IS OF BULK AT MOST 1048576: true; the input reads as it did. -/
def fnExactIsCheckedUptoRow : OpenClaim := { program := "ytaiieodllhoelaa", sum := "f8f8403ff7cffe101bde308df92c29af2da6c2136885efddec8742b6a870a9f6", func := "loop.example/g01130/laws.FnExactIsChecked", spec := "fnExactIsChecked", inPlace := ["internal/bytealg.IndexByteString"], unfollowed := true, recurses := true, plainKeys := false, apart := false, narrowed := true }
def FnExactIsCheckedUptoSaid : Prop := fnExactIsCheckedUptoRow.holds Try.pinned (OpenSpec.upto fnExactIsCheckedSpec)

/-- 'laws.FnExactCheckSymbols', WHERE WHAT IT READS IS OF BULK AT MOST 1048576: true; the input reads as it did. -/
def fnExactCheckSymbolsUptoRow : OpenClaim := { program := "ytaiieodllhoelaa", sum := "f8f8403ff7cffe101bde308df92c29af2da6c2136885efddec8742b6a870a9f6", func := "loop.example/g01130/laws.FnExactCheckSymbols", spec := "fnExactCheckSymbols", inPlace := ["internal/bytealg.IndexByteString"], unfollowed := true, recurses := true, plainKeys := false, apart := false, narrowed := true }
def FnExactCheckSymbolsUptoSaid : Prop := fnExactCheckSymbolsUptoRow.holds Try.pinned (OpenSpec.upto fnExactCheckSymbolsSpec)

/-- 'laws.FnExactRankOfWord', WHERE WHAT IT READS IS OF BULK AT MOST 1048576: true; the input reads as it did. -/
def fnExactRankOfWordUptoRow : OpenClaim := { program := "ytaiieodllhoelaa", sum := "f8f8403ff7cffe101bde308df92c29af2da6c2136885efddec8742b6a870a9f6", func := "loop.example/g01130/laws.FnExactRankOfWord", spec := "fnExactRankOfWord", inPlace := ["internal/bytealg.IndexByteString"], unfollowed := true, recurses := true, plainKeys := false, apart := false, narrowed := true }
def FnExactRankOfWordUptoSaid : Prop := fnExactRankOfWordUptoRow.holds Try.pinned (OpenSpec.upto fnExactRankOfWordSpec)

/-- 'laws.FnExactPairChain', WHERE WHAT IT READS IS OF BULK AT MOST 1048576: true; the input reads as it did. -/
def fnExactPairChainUptoRow : OpenClaim := { program := "ytaiieodllhoelaa", sum := "f8f8403ff7cffe101bde308df92c29af2da6c2136885efddec8742b6a870a9f6", func := "loop.example/g01130/laws.FnExactPairChain", spec := "fnExactPairChain", unfollowed := true, recurses := true, plainKeys := false, apart := false, narrowed := true }
def FnExactPairChainUptoSaid : Prop := fnExactPairChainUptoRow.holds Try.pinned (OpenSpec.upto fnExactPairChainSpec)

/-- 'laws.FnExactPairDistance', WHERE WHAT IT READS IS OF BULK AT MOST 1048576: true; the input reads as it did. -/
def fnExactPairDistanceUptoRow : OpenClaim := { program := "ytaiieodllhoelaa", sum := "f8f8403ff7cffe101bde308df92c29af2da6c2136885efddec8742b6a870a9f6", func := "loop.example/g01130/laws.FnExactPairDistance", spec := "fnExactPairDistance", unfollowed := true, recurses := true, plainKeys := false, apart := false, narrowed := true }
def FnExactPairDistanceUptoSaid : Prop := fnExactPairDistanceUptoRow.holds Try.pinned (OpenSpec.upto fnExactPairDistanceSpec)

/-- 'laws.FnExactCorrectPair', WHERE WHAT IT READS IS OF BULK AT MOST 1048576: true; the input reads as it did. -/
def fnExactCorrectPairUptoRow : OpenClaim := { program := "ytaiieodllhoelaa", sum := "f8f8403ff7cffe101bde308df92c29af2da6c2136885efddec8742b6a870a9f6", func := "loop.example/g01130/laws.FnExactCorrectPair", spec := "fnExactCorrectPair", inPlace := ["internal/bytealg.IndexByteString"], unfollowed := true, recurses := true, plainKeys := false, apart := false, narrowed := true }
def FnExactCorrectPairUptoSaid : Prop := fnExactCorrectPairUptoRow.holds Try.pinned (OpenSpec.upto fnExactCorrectPairSpec)

/-- 'laws.FnPairs', WHERE WHAT IT READS IS OF BULK AT MOST 1048576: true; the input reads as it did. -/
def fnPairsUptoRow : OpenClaim := { program := "ytaiieodllhoelaa", sum := "f8f8403ff7cffe101bde308df92c29af2da6c2136885efddec8742b6a870a9f6", func := "loop.example/g01130/laws.FnPairs", spec := "fnPairs", inPlace := ["internal/bytealg.IndexByteString"], unfollowed := true, recurses := true, plainKeys := false, apart := false, narrowed := true }
def FnPairsUptoSaid : Prop := fnPairsUptoRow.holds Try.pinned (OpenSpec.upto fnPairsSpec)

/-- 'laws.FnCounted', WHERE WHAT IT READS IS OF BULK AT MOST 1048576: true; the input reads as it did. -/
def fnCountedUptoRow : OpenClaim := { program := "ytaiieodllhoelaa", sum := "f8f8403ff7cffe101bde308df92c29af2da6c2136885efddec8742b6a870a9f6", func := "loop.example/g01130/laws.FnCounted", spec := "fnCounted", inPlace := ["internal/bytealg.IndexByteString"], unfollowed := true, recurses := true, plainKeys := false, apart := false, narrowed := true }
def FnCountedUptoSaid : Prop := fnCountedUptoRow.holds Try.pinned (OpenSpec.upto fnCountedSpec)

/-- 'laws.FnKnown', WHERE WHAT IT READS IS OF BULK AT MOST 1048576: true; the input reads as it did. -/
def fnKnownUptoRow : OpenClaim := { program := "ytaiieodllhoelaa", sum := "f8f8403ff7cffe101bde308df92c29af2da6c2136885efddec8742b6a870a9f6", func := "loop.example/g01130/laws.FnKnown", spec := "fnKnown", inPlace := ["internal/bytealg.IndexByteString"], unfollowed := true, recurses := true, plainKeys := false, apart := false, narrowed := true }
def FnKnownUptoSaid : Prop := fnKnownUptoRow.holds Try.pinned (OpenSpec.upto fnKnownSpec)

end Rows
end Go.Proofs.Ytaiieodllhoelaa
