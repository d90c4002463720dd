/-
  No cell of these rows narrows 'for every input' (looked for: loops, veiled, ifaces, maps, wideKeys, modest, calm, conditions, laid).
  DERIVED. THE GIVEN ROWS OF THIS SEAT. 11 by the template 'for every input the law returns true; each argument reads behind the call as it read before'; 0 by the template 'total and deterministic' (their statements: YtnmkckghfckgbaaTotals.lean).
  GIVEN WITH THE SEED: the statements are not yours to turn. If you find one false, say at which input.
  Laid BY PROGRAM, IN A SANDBOX (cutbox-rows.mjs): the forced cells as the released guide's own fill.sh prints them over the translation 28aad1a7b398f8f1… (all of the seat's roots in one cut). By AI agents, Wed Nov 11 2026. No macro, syntax, notation, axiom, sorry.
-/
import Derived.Test.YtnmkckghfckgbaaChecked
import GoSem.Claim
import GoSem.ClaimJoined
import GoSem.ClaimMapViews
import Derived.JoinedTies
import Derived.KernelRfl
namespace Go.Proofs.Ytnmkckghfckgbaa
/- THE CELL 'sum', in the pinned program and in every row, IS THE sha256 OF THE DUMP (.gsa) THAT YtnmkckghfckgbaaProg.lean LOADS. Nothing in Lean hashes anything: it is a label: what it is worth is what the hold of that sum in a sandbox is worth. -/
noncomputable def Try.pinned : Pinned := { name := "ytnmkckghfckgbaa", sum := "28aad1a7b398f8f150505c16bb358e07968ff566737690f345923f8d40904a8a", checked := Try.checked }
namespace Rows
def none {H : Type} : Left H := { results := [], args := [] }

/-- 'laws.FnExactLeastPatternDistance': WHATEVER THE INPUT: true; the input reads as it did. -/
def fnExactLeastPatternDistanceSpec : ChangeSpec := { name := "fnExactLeastPatternDistance", fn := fun _ => fun
  | [d] => { results := [.lit (.bool true)], args := [d] }
  | _ => none }
def fnExactLeastPatternDistanceRow : OpenClaim := { program := "ytnmkckghfckgbaa", sum := "28aad1a7b398f8f150505c16bb358e07968ff566737690f345923f8d40904a8a", func := "loop.example/g01130/laws.FnExactLeastPatternDistance", spec := "fnExactLeastPatternDistance", apart := false }
def FnExactLeastPatternDistanceSaid : Prop := fnExactLeastPatternDistanceRow.holds Try.pinned (OpenSpec.ofChange fnExactLeastPatternDistanceSpec)

/-- ITS FALSE NEIGHBOUR: 'it returns false'. Refute it at one input. -/
def fnExactLeastPatternDistanceWrong : ChangeSpec := { name := "fnExactLeastPatternDistance", fn := fun _ => fun
  | [d] => { results := [.lit (.bool false)], args := [d] }
  | _ => none }
def FnExactLeastPatternDistanceWrongFalsely : Prop := fnExactLeastPatternDistanceRow.holds Try.pinned (OpenSpec.ofChange fnExactLeastPatternDistanceWrong)

/-- 'laws.FnTolerance': WHATEVER THE INPUT: true; the input reads as it did. -/
def fnToleranceSpec : ChangeSpec := { name := "fnTolerance", fn := fun _ => fun
  | [d1, d2] => { results := [.lit (.bool true)], args := [d1, d2] }
  | _ => none }
def fnToleranceRow : OpenClaim := { program := "ytnmkckghfckgbaa", sum := "28aad1a7b398f8f150505c16bb358e07968ff566737690f345923f8d40904a8a", func := "loop.example/g01130/laws.FnTolerance", spec := "fnTolerance", unfollowed := true, recurses := true, apart := false }
def FnToleranceSaid : Prop := fnToleranceRow.holds Try.pinned (OpenSpec.ofChange fnToleranceSpec)

/-- ITS FALSE NEIGHBOUR: 'it returns false'. Refute it at one input. -/
def fnToleranceWrong : ChangeSpec := { name := "fnTolerance", fn := fun _ => fun
  | [d1, d2] => { results := [.lit (.bool false)], args := [d1, d2] }
  | _ => none }
def FnToleranceWrongFalsely : Prop := fnToleranceRow.holds Try.pinned (OpenSpec.ofChange fnToleranceWrong)

/-- 'laws.FnExactHasEdges': WHATEVER THE INPUT: true; the input reads as it did. -/
def fnExactHasEdgesSpec : ChangeSpec := { name := "fnExactHasEdges", fn := fun _ => fun
  | [d] => { results := [.lit (.bool true)], args := [d] }
  | _ => none }
def fnExactHasEdgesRow : OpenClaim := { program := "ytnmkckghfckgbaa", sum := "28aad1a7b398f8f150505c16bb358e07968ff566737690f345923f8d40904a8a", func := "loop.example/g01130/laws.FnExactHasEdges", spec := "fnExactHasEdges", apart := false }
def FnExactHasEdgesSaid : Prop := fnExactHasEdgesRow.holds Try.pinned (OpenSpec.ofChange fnExactHasEdgesSpec)

/-- ITS FALSE NEIGHBOUR: 'it returns false'. Refute it at one input. -/
def fnExactHasEdgesWrong : ChangeSpec := { name := "fnExactHasEdges", fn := fun _ => fun
  | [d] => { results := [.lit (.bool false)], args := [d] }
  | _ => none }
def FnExactHasEdgesWrongFalsely : Prop := fnExactHasEdgesRow.holds Try.pinned (OpenSpec.ofChange fnExactHasEdgesWrong)

/-- 'laws.FnExactMeasurePattern': WHATEVER THE INPUT: true; the input reads as it did. -/
def fnExactMeasurePatternSpec : ChangeSpec := { name := "fnExactMeasurePattern", fn := fun _ => fun
  | [d1, d2] => { results := [.lit (.bool true)], args := [d1, d2] }
  | _ => none }
def fnExactMeasurePatternRow : OpenClaim := { program := "ytnmkckghfckgbaa", sum := "28aad1a7b398f8f150505c16bb358e07968ff566737690f345923f8d40904a8a", func := "loop.example/g01130/laws.FnExactMeasurePattern", spec := "fnExactMeasurePattern", unfollowed := true, recurses := true, apart := false }
def FnExactMeasurePatternSaid : Prop := fnExactMeasurePatternRow.holds Try.pinned (OpenSpec.ofChange fnExactMeasurePatternSpec)

/-- ITS FALSE NEIGHBOUR: 'it returns false'. Refute it at one input. -/
def fnExactMeasurePatternWrong : ChangeSpec := { name := "fnExactMeasurePattern", fn := fun _ => fun
  | [d1, d2] => { results := [.lit (.bool false)], args := [d1, d2] }
  | _ => none }
def FnExactMeasurePatternWrongFalsely : Prop := fnExactMeasurePatternRow.holds Try.pinned (OpenSpec.ofChange fnExactMeasurePatternWrong)

/-- 'laws.FnExactMeasureEdges': WHATEVER THE INPUT: true; the input reads as it did. -/
def fnExactMeasureEdgesSpec : ChangeSpec := { name := "fnExactMeasureEdges", fn := fun _ => fun
  | [d1, d2] => { results := [.lit (.bool true)], args := [d1, d2] }
  | _ => none }
def fnExactMeasureEdgesRow : OpenClaim := { program := "ytnmkckghfckgbaa", sum := "28aad1a7b398f8f150505c16bb358e07968ff566737690f345923f8d40904a8a", func := "loop.example/g01130/laws.FnExactMeasureEdges", spec := "fnExactMeasureEdges", unfollowed := true, recurses := true, apart := false }
def FnExactMeasureEdgesSaid : Prop := fnExactMeasureEdgesRow.holds Try.pinned (OpenSpec.ofChange fnExactMeasureEdgesSpec)

/-- ITS FALSE NEIGHBOUR: 'it returns false'. Refute it at one input. -/
def fnExactMeasureEdgesWrong : ChangeSpec := { name := "fnExactMeasureEdges", fn := fun _ => fun
  | [d1, d2] => { results := [.lit (.bool false)], args := [d1, d2] }
  | _ => none }
def FnExactMeasureEdgesWrongFalsely : Prop := fnExactMeasureEdgesRow.holds Try.pinned (OpenSpec.ofChange fnExactMeasureEdgesWrong)

/-- 'laws.FnExactStripesOf': WHATEVER THE INPUT: true; the input reads as it did. -/
def fnExactStripesOfSpec : ChangeSpec := { name := "fnExactStripesOf", fn := fun _ => fun
  | [d1, d2] => { results := [.lit (.bool true)], args := [d1, d2] }
  | _ => none }
def fnExactStripesOfRow : OpenClaim := { program := "ytnmkckghfckgbaa", sum := "28aad1a7b398f8f150505c16bb358e07968ff566737690f345923f8d40904a8a", func := "loop.example/g01130/laws.FnExactStripesOf", spec := "fnExactStripesOf", inPlace := ["internal/bytealg.IndexByteString"], unfollowed := true, recurses := true, apart := false }
def FnExactStripesOfSaid : Prop := fnExactStripesOfRow.holds Try.pinned (OpenSpec.ofChange fnExactStripesOfSpec)

/-- ITS FALSE NEIGHBOUR: 'it returns false'. Refute it at one input. -/
def fnExactStripesOfWrong : ChangeSpec := { name := "fnExactStripesOf", fn := fun _ => fun
  | [d1, d2] => { results := [.lit (.bool false)], args := [d1, d2] }
  | _ => none }
def FnExactStripesOfWrongFalsely : Prop := fnExactStripesOfRow.holds Try.pinned (OpenSpec.ofChange fnExactStripesOfWrong)

/-- 'laws.FnSpread': WHATEVER THE INPUT: true; the input reads as it did. -/
def fnSpreadSpec : ChangeSpec := { name := "fnSpread", fn := fun _ => fun
  | [d1, d2] => { results := [.lit (.bool true)], args := [d1, d2] }
  | _ => none }
def fnSpreadRow : OpenClaim := { program := "ytnmkckghfckgbaa", sum := "28aad1a7b398f8f150505c16bb358e07968ff566737690f345923f8d40904a8a", func := "loop.example/g01130/laws.FnSpread", spec := "fnSpread", inPlace := ["internal/bytealg.IndexByteString"], unfollowed := true, recurses := true, apart := false }
def FnSpreadSaid : Prop := fnSpreadRow.holds Try.pinned (OpenSpec.ofChange fnSpreadSpec)

/-- ITS FALSE NEIGHBOUR: 'it returns false'. Refute it at one input. -/
def fnSpreadWrong : ChangeSpec := { name := "fnSpread", fn := fun _ => fun
  | [d1, d2] => { results := [.lit (.bool false)], args := [d1, d2] }
  | _ => none }
def FnSpreadWrongFalsely : Prop := fnSpreadRow.holds Try.pinned (OpenSpec.ofChange fnSpreadWrong)

/-- 'laws.FnExactReadStripes': WHATEVER THE INPUT: true; the input reads as it did. -/
def fnExactReadStripesSpec : ChangeSpec := { name := "fnExactReadStripes", fn := fun _ => fun
  | [d1, d2] => { results := [.lit (.bool true)], args := [d1, d2] }
  | _ => none }
def fnExactReadStripesRow : OpenClaim := { program := "ytnmkckghfckgbaa", sum := "28aad1a7b398f8f150505c16bb358e07968ff566737690f345923f8d40904a8a", func := "loop.example/g01130/laws.FnExactReadStripes", spec := "fnExactReadStripes", unfollowed := true, recurses := true, apart := false }
def FnExactReadStripesSaid : Prop := fnExactReadStripesRow.holds Try.pinned (OpenSpec.ofChange fnExactReadStripesSpec)

/-- ITS FALSE NEIGHBOUR: 'it returns false'. Refute it at one input. -/
def fnExactReadStripesWrong : ChangeSpec := { name := "fnExactReadStripes", fn := fun _ => fun
  | [d1, d2] => { results := [.lit (.bool false)], args := [d1, d2] }
  | _ => none }
def FnExactReadStripesWrongFalsely : Prop := fnExactReadStripesRow.holds Try.pinned (OpenSpec.ofChange fnExactReadStripesWrong)

/-- 'laws.FnExactIsDirected': WHATEVER THE INPUT: true; the input reads as it did. -/
def fnExactIsDirectedSpec : ChangeSpec := { name := "fnExactIsDirected", fn := fun _ => fun
  | [d] => { results := [.lit (.bool true)], args := [d] }
  | _ => none }
def fnExactIsDirectedRow : OpenClaim := { program := "ytnmkckghfckgbaa", sum := "28aad1a7b398f8f150505c16bb358e07968ff566737690f345923f8d40904a8a", func := "loop.example/g01130/laws.FnExactIsDirected", spec := "fnExactIsDirected", unfollowed := true, recurses := true, apart := false }
def FnExactIsDirectedSaid : Prop := fnExactIsDirectedRow.holds Try.pinned (OpenSpec.ofChange fnExactIsDirectedSpec)

/-- ITS FALSE NEIGHBOUR: 'it returns false'. Refute it at one input. -/
def fnExactIsDirectedWrong : ChangeSpec := { name := "fnExactIsDirected", fn := fun _ => fun
  | [d] => { results := [.lit (.bool false)], args := [d] }
  | _ => none }
def FnExactIsDirectedWrongFalsely : Prop := fnExactIsDirectedRow.holds Try.pinned (OpenSpec.ofChange fnExactIsDirectedWrong)

/-- 'laws.FnStripes': WHATEVER THE INPUT: true; the input reads as it did. -/
def fnStripesSpec : ChangeSpec := { name := "fnStripes", fn := fun _ => fun
  | [d1, d2] => { results := [.lit (.bool true)], args := [d1, d2] }
  | _ => none }
def fnStripesRow : OpenClaim := { program := "ytnmkckghfckgbaa", sum := "28aad1a7b398f8f150505c16bb358e07968ff566737690f345923f8d40904a8a", func := "loop.example/g01130/laws.FnStripes", spec := "fnStripes", inPlace := ["internal/bytealg.IndexByteString"], unfollowed := true, recurses := true, apart := false }
def FnStripesSaid : Prop := fnStripesRow.holds Try.pinned (OpenSpec.ofChange fnStripesSpec)

/-- ITS FALSE NEIGHBOUR: 'it returns false'. Refute it at one input. -/
def fnStripesWrong : ChangeSpec := { name := "fnStripes", fn := fun _ => fun
  | [d1, d2] => { results := [.lit (.bool false)], args := [d1, d2] }
  | _ => none }
def FnStripesWrongFalsely : Prop := fnStripesRow.holds Try.pinned (OpenSpec.ofChange fnStripesWrong)

/-- 'laws.FnExactScanStripes': WHATEVER THE INPUT: true; the input reads as it did. -/
def fnExactScanStripesSpec : ChangeSpec := { name := "fnExactScanStripes", fn := fun _ => fun
  | [d1, d2] => { results := [.lit (.bool true)], args := [d1, d2] }
  | _ => none }
def fnExactScanStripesRow : OpenClaim := { program := "ytnmkckghfckgbaa", sum := "28aad1a7b398f8f150505c16bb358e07968ff566737690f345923f8d40904a8a", func := "loop.example/g01130/laws.FnExactScanStripes", spec := "fnExactScanStripes", unfollowed := true, recurses := true, apart := false }
def FnExactScanStripesSaid : Prop := fnExactScanStripesRow.holds Try.pinned (OpenSpec.ofChange fnExactScanStripesSpec)

/-- ITS FALSE NEIGHBOUR: 'it returns false'. Refute it at one input. -/
def fnExactScanStripesWrong : ChangeSpec := { name := "fnExactScanStripes", fn := fun _ => fun
  | [d1, d2] => { results := [.lit (.bool false)], args := [d1, d2] }
  | _ => none }
def FnExactScanStripesWrongFalsely : Prop := fnExactScanStripesRow.holds Try.pinned (OpenSpec.ofChange fnExactScanStripesWrong)

/- THE SECOND FORM. 'bulk': how many values and letters a reading holds, each counted each time it is reached (what is shared counts as often as it is met; a slice's spare places count too). A statement '..UptoSaid' is the law's where the arguments, and the package variables that the reading takes, are together of bulk at most 1048576: NARROWER than '..Said'. Prove '..Said' where nothing that the law and all that it calls make is longer than what came in: it says more and counts as full. Else prove '..UptoSaid'. A law counts once. -/
mutual
def uptoBulk {H : Type} : DataW H → Nat
  | .lit (.string bytes) => bytes.length + 1
  | .lit _ => 1
  | .nil => 1
  | .ptr d => uptoBulk d + 1
  | .slice elems spare => uptoBulkAll elems + uptoBulkAll spare + 1
  | .agg parts => uptoBulkAll parts + 1
  | .iface _ d => uptoBulk d + 1
  | .map entries => uptoBulkEntries entries + 1
  | .held _ => 1
def uptoBulkAll {H : Type} : List (DataW H) → Nat
  | [] => 0
  | d :: r => uptoBulk d + uptoBulkAll r
def uptoBulkEntries {H : Type} : List (Lit × DataW H) → Nat
  | [] => 0
  | x :: r => uptoBulkEntry x + uptoBulkEntries r
def uptoBulkEntry {H : Type} : Lit × DataW H → Nat
  | (.string bytes, d) => bytes.length + uptoBulk d + 1
  | (_, d) => uptoBulk d + 1
 end
def uptoSmall : (H : Type) → List (DataW H) → Bool := fun _ ds => decide (uptoBulkAll ds ≤ 1048576)
def OpenSpec.upto (s : _root_.Go.ChangeSpec) : _root_.Go.OpenSpec := { _root_.Go.OpenSpec.ofChange s with cond := some uptoSmall }

/-- 'laws.FnExactLeastPatternDistance', WHERE WHAT IT READS IS OF BULK AT MOST 1048576: true; the input reads as it did. -/
def fnExactLeastPatternDistanceUptoRow : OpenClaim := { program := "ytnmkckghfckgbaa", sum := "28aad1a7b398f8f150505c16bb358e07968ff566737690f345923f8d40904a8a", func := "loop.example/g01130/laws.FnExactLeastPatternDistance", spec := "fnExactLeastPatternDistance", apart := false, narrowed := true }
def FnExactLeastPatternDistanceUptoSaid : Prop := fnExactLeastPatternDistanceUptoRow.holds Try.pinned (OpenSpec.upto fnExactLeastPatternDistanceSpec)

/-- 'laws.FnTolerance', WHERE WHAT IT READS IS OF BULK AT MOST 1048576: true; the input reads as it did. -/
def fnToleranceUptoRow : OpenClaim := { program := "ytnmkckghfckgbaa", sum := "28aad1a7b398f8f150505c16bb358e07968ff566737690f345923f8d40904a8a", func := "loop.example/g01130/laws.FnTolerance", spec := "fnTolerance", unfollowed := true, recurses := true, apart := false, narrowed := true }
def FnToleranceUptoSaid : Prop := fnToleranceUptoRow.holds Try.pinned (OpenSpec.upto fnToleranceSpec)

/-- 'laws.FnExactHasEdges', WHERE WHAT IT READS IS OF BULK AT MOST 1048576: true; the input reads as it did. -/
def fnExactHasEdgesUptoRow : OpenClaim := { program := "ytnmkckghfckgbaa", sum := "28aad1a7b398f8f150505c16bb358e07968ff566737690f345923f8d40904a8a", func := "loop.example/g01130/laws.FnExactHasEdges", spec := "fnExactHasEdges", apart := false, narrowed := true }
def FnExactHasEdgesUptoSaid : Prop := fnExactHasEdgesUptoRow.holds Try.pinned (OpenSpec.upto fnExactHasEdgesSpec)

/-- 'laws.FnExactMeasurePattern', WHERE WHAT IT READS IS OF BULK AT MOST 1048576: true; the input reads as it did. -/
def fnExactMeasurePatternUptoRow : OpenClaim := { program := "ytnmkckghfckgbaa", sum := "28aad1a7b398f8f150505c16bb358e07968ff566737690f345923f8d40904a8a", func := "loop.example/g01130/laws.FnExactMeasurePattern", spec := "fnExactMeasurePattern", unfollowed := true, recurses := true, apart := false, narrowed := true }
def FnExactMeasurePatternUptoSaid : Prop := fnExactMeasurePatternUptoRow.holds Try.pinned (OpenSpec.upto fnExactMeasurePatternSpec)

/-- 'laws.FnExactMeasureEdges', WHERE WHAT IT READS IS OF BULK AT MOST 1048576: true; the input reads as it did. -/
def fnExactMeasureEdgesUptoRow : OpenClaim := { program := "ytnmkckghfckgbaa", sum := "28aad1a7b398f8f150505c16bb358e07968ff566737690f345923f8d40904a8a", func := "loop.example/g01130/laws.FnExactMeasureEdges", spec := "fnExactMeasureEdges", unfollowed := true, recurses := true, apart := false, narrowed := true }
def FnExactMeasureEdgesUptoSaid : Prop := fnExactMeasureEdgesUptoRow.holds Try.pinned (OpenSpec.upto fnExactMeasureEdgesSpec)

/-- 'laws.FnExactStripesOf', WHERE WHAT IT READS IS OF BULK AT MOST 1048576: true; the input reads as it did. -/
def fnExactStripesOfUptoRow : OpenClaim := { program := "ytnmkckghfckgbaa", sum := "28aad1a7b398f8f150505c16bb358e07968ff566737690f345923f8d40904a8a", func := "loop.example/g01130/laws.FnExactStripesOf", spec := "fnExactStripesOf", inPlace := ["internal/bytealg.IndexByteString"], unfollowed := true, recurses := true, apart := false, narrowed := true }
def FnExactStripesOfUptoSaid : Prop := fnExactStripesOfUptoRow.holds Try.pinned (OpenSpec.upto fnExactStripesOfSpec)

/-- 'laws.FnSpread', WHERE WHAT IT READS IS OF BULK AT MOST 1048576: true; the input reads as it did. -/
def fnSpreadUptoRow : OpenClaim := { program := "ytnmkckghfckgbaa", sum := "28aad1a7b398f8f150505c16bb358e07968ff566737690f345923f8d40904a8a", func := "loop.example/g01130/laws.FnSpread", spec := "fnSpread", inPlace := ["internal/bytealg.IndexByteString"], unfollowed := true, recurses := true, apart := false, narrowed := true }
def FnSpreadUptoSaid : Prop := fnSpreadUptoRow.holds Try.pinned (OpenSpec.upto fnSpreadSpec)

/-- 'laws.FnExactReadStripes', WHERE WHAT IT READS IS OF BULK AT MOST 1048576: true; the input reads as it did. -/
def fnExactReadStripesUptoRow : OpenClaim := { program := "ytnmkckghfckgbaa", sum := "28aad1a7b398f8f150505c16bb358e07968ff566737690f345923f8d40904a8a", func := "loop.example/g01130/laws.FnExactReadStripes", spec := "fnExactReadStripes", unfollowed := true, recurses := true, apart := false, narrowed := true }
def FnExactReadStripesUptoSaid : Prop := fnExactReadStripesUptoRow.holds Try.pinned (OpenSpec.upto fnExactReadStripesSpec)

/-- 'laws.FnExactIsDirected', WHERE WHAT IT READS IS OF BULK AT MOST 1048576: true; the input reads as it did. -/
def fnExactIsDirectedUptoRow : OpenClaim := { program := "ytnmkckghfckgbaa", sum := "28aad1a7b398f8f150505c16bb358e07968ff566737690f345923f8d40904a8a", func := "loop.example/g01130/laws.FnExactIsDirected", spec := "fnExactIsDirected", unfollowed := true, recurses := true, apart := false, narrowed := true }
def FnExactIsDirectedUptoSaid : Prop := fnExactIsDirectedUptoRow.holds Try.pinned (OpenSpec.upto fnExactIsDirectedSpec)

/-- 'laws.FnStripes', WHERE WHAT IT READS IS OF BULK AT MOST 1048576: true; the input reads as it did. -/
def fnStripesUptoRow : OpenClaim := { program := "ytnmkckghfckgbaa", sum := "28aad1a7b398f8f150505c16bb358e07968ff566737690f345923f8d40904a8a", func := "loop.example/g01130/laws.FnStripes", spec := "fnStripes", inPlace := ["internal/bytealg.IndexByteString"], unfollowed := true, recurses := true, apart := false, narrowed := true }
def FnStripesUptoSaid : Prop := fnStripesUptoRow.holds Try.pinned (OpenSpec.upto fnStripesSpec)

/-- 'laws.FnExactScanStripes', WHERE WHAT IT READS IS OF BULK AT MOST 1048576: true; the input reads as it did. -/
def fnExactScanStripesUptoRow : OpenClaim := { program := "ytnmkckghfckgbaa", sum := "28aad1a7b398f8f150505c16bb358e07968ff566737690f345923f8d40904a8a", func := "loop.example/g01130/laws.FnExactScanStripes", spec := "fnExactScanStripes", unfollowed := true, recurses := true, apart := false, narrowed := true }
def FnExactScanStripesUptoSaid : Prop := fnExactScanStripesUptoRow.holds Try.pinned (OpenSpec.upto fnExactScanStripesSpec)

end Rows
end Go.Proofs.Ytnmkckghfckgbaa
