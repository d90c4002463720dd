/-
  No cell of these rows narrows 'for every input' (looked for: loops, veiled, ifaces, maps, wideKeys, modest, calm, conditions, laid).
  DERIVED. THE GIVEN ROWS OF THIS SEAT. 7 by the template 'for every input the law returns true; each argument reads behind the call as it read before'; 0 by the template 'total and deterministic' (their statements: YtlpbflmgkopklaaTotals.lean).
  GIVEN WITH THE SEED: the statements are not yours to turn. If you find one false, say at which input.
  Laid BY PROGRAM, IN A SANDBOX (cutbox-rows.mjs): the forced cells as the released guide's own fill.sh prints them over the translation 04c1a8ffabee5ff7… (all of the seat's roots in one cut). By AI agents, Wed Nov 11 2026. No macro, syntax, notation, axiom, sorry.
-/
import Derived.Test.YtlpbflmgkopklaaChecked
import GoSem.Claim
import GoSem.ClaimJoined
import GoSem.ClaimMapViews
import Derived.JoinedTies
import Derived.KernelRfl
namespace Go.Proofs.Ytlpbflmgkopklaa
/- THE CELL 'sum', in the pinned program and in every row, IS THE sha256 OF THE DUMP (.gsa) THAT YtlpbflmgkopklaaProg.lean LOADS. Nothing in Lean hashes anything: it is a label: what it is worth is what the hold of that sum in a sandbox is worth. -/
noncomputable def Try.pinned : Pinned := { name := "ytlpbflmgkopklaa", sum := "04c1a8ffabee5ff789a4bcfc91fe41e9572778cf9d8515f1b2d25bd8a6873e2c", checked := Try.checked }
namespace Rows
def none {H : Type} : Left H := { results := [], args := [] }

/-- 'laws.FnExactBestPair': WHATEVER THE INPUT: true; the input reads as it did. -/
def fnExactBestPairSpec : ChangeSpec := { name := "fnExactBestPair", fn := fun _ => fun
  | [d1, d2] => { results := [.lit (.bool true)], args := [d1, d2] }
  | _ => none }
def fnExactBestPairRow : OpenClaim := { program := "ytlpbflmgkopklaa", sum := "04c1a8ffabee5ff789a4bcfc91fe41e9572778cf9d8515f1b2d25bd8a6873e2c", func := "loop.example/g01130/laws.FnExactBestPair", spec := "fnExactBestPair", unfollowed := true, recurses := true, apart := false }
def FnExactBestPairSaid : Prop := fnExactBestPairRow.holds Try.pinned (OpenSpec.ofChange fnExactBestPairSpec)

/-- ITS FALSE NEIGHBOUR: 'it returns false'. Refute it at one input. -/
def fnExactBestPairWrong : ChangeSpec := { name := "fnExactBestPair", fn := fun _ => fun
  | [d1, d2] => { results := [.lit (.bool false)], args := [d1, d2] }
  | _ => none }
def FnExactBestPairWrongFalsely : Prop := fnExactBestPairRow.holds Try.pinned (OpenSpec.ofChange fnExactBestPairWrong)

/-- 'laws.FnLeastModulus': WHATEVER THE INPUT: true; the input reads as it did. -/
def fnLeastModulusSpec : ChangeSpec := { name := "fnLeastModulus", fn := fun _ => fun
  | [d1, d2] => { results := [.lit (.bool true)], args := [d1, d2] }
  | _ => none }
def fnLeastModulusRow : OpenClaim := { program := "ytlpbflmgkopklaa", sum := "04c1a8ffabee5ff789a4bcfc91fe41e9572778cf9d8515f1b2d25bd8a6873e2c", func := "loop.example/g01130/laws.FnLeastModulus", spec := "fnLeastModulus", unfollowed := true, recurses := true, apart := false }
def FnLeastModulusSaid : Prop := fnLeastModulusRow.holds Try.pinned (OpenSpec.ofChange fnLeastModulusSpec)

/-- ITS FALSE NEIGHBOUR: 'it returns false'. Refute it at one input. -/
def fnLeastModulusWrong : ChangeSpec := { name := "fnLeastModulus", fn := fun _ => fun
  | [d1, d2] => { results := [.lit (.bool false)], args := [d1, d2] }
  | _ => none }
def FnLeastModulusWrongFalsely : Prop := fnLeastModulusRow.holds Try.pinned (OpenSpec.ofChange fnLeastModulusWrong)

/-- 'laws.FnExactLeastModulus': WHATEVER THE INPUT: true; the input reads as it did. -/
def fnExactLeastModulusSpec : ChangeSpec := { name := "fnExactLeastModulus", fn := fun _ => fun
  | [d1, d2, d3] => { results := [.lit (.bool true)], args := [d1, d2, d3] }
  | _ => none }
def fnExactLeastModulusRow : OpenClaim := { program := "ytlpbflmgkopklaa", sum := "04c1a8ffabee5ff789a4bcfc91fe41e9572778cf9d8515f1b2d25bd8a6873e2c", func := "loop.example/g01130/laws.FnExactLeastModulus", spec := "fnExactLeastModulus", unfollowed := true, recurses := true, apart := false }
def FnExactLeastModulusSaid : Prop := fnExactLeastModulusRow.holds Try.pinned (OpenSpec.ofChange fnExactLeastModulusSpec)

/-- ITS FALSE NEIGHBOUR: 'it returns false'. Refute it at one input. -/
def fnExactLeastModulusWrong : ChangeSpec := { name := "fnExactLeastModulus", fn := fun _ => fun
  | [d1, d2, d3] => { results := [.lit (.bool false)], args := [d1, d2, d3] }
  | _ => none }
def FnExactLeastModulusWrongFalsely : Prop := fnExactLeastModulusRow.holds Try.pinned (OpenSpec.ofChange fnExactLeastModulusWrong)

/-- 'laws.FnExactCountBest': WHATEVER THE INPUT: true; the input reads as it did. -/
def fnExactCountBestSpec : ChangeSpec := { name := "fnExactCountBest", fn := fun _ => fun
  | [d1, d2, d3, d4] => { results := [.lit (.bool true)], args := [d1, d2, d3, d4] }
  | _ => none }
def fnExactCountBestRow : OpenClaim := { program := "ytlpbflmgkopklaa", sum := "04c1a8ffabee5ff789a4bcfc91fe41e9572778cf9d8515f1b2d25bd8a6873e2c", func := "loop.example/g01130/laws.FnExactCountBest", spec := "fnExactCountBest", unfollowed := true, recurses := true, apart := false }
def FnExactCountBestSaid : Prop := fnExactCountBestRow.holds Try.pinned (OpenSpec.ofChange fnExactCountBestSpec)

/-- ITS FALSE NEIGHBOUR: 'it returns false'. Refute it at one input. -/
def fnExactCountBestWrong : ChangeSpec := { name := "fnExactCountBest", fn := fun _ => fun
  | [d1, d2, d3, d4] => { results := [.lit (.bool false)], args := [d1, d2, d3, d4] }
  | _ => none }
def FnExactCountBestWrongFalsely : Prop := fnExactCountBestRow.holds Try.pinned (OpenSpec.ofChange fnExactCountBestWrong)

/-- 'laws.FnExactBestWeights': WHATEVER THE INPUT: true; the input reads as it did. -/
def fnExactBestWeightsSpec : ChangeSpec := { name := "fnExactBestWeights", fn := fun _ => fun
  | [d1, d2, d3, d4] => { results := [.lit (.bool true)], args := [d1, d2, d3, d4] }
  | _ => none }
def fnExactBestWeightsRow : OpenClaim := { program := "ytlpbflmgkopklaa", sum := "04c1a8ffabee5ff789a4bcfc91fe41e9572778cf9d8515f1b2d25bd8a6873e2c", func := "loop.example/g01130/laws.FnExactBestWeights", spec := "fnExactBestWeights", unfollowed := true, recurses := true, apart := false }
def FnExactBestWeightsSaid : Prop := fnExactBestWeightsRow.holds Try.pinned (OpenSpec.ofChange fnExactBestWeightsSpec)

/-- ITS FALSE NEIGHBOUR: 'it returns false'. Refute it at one input. -/
def fnExactBestWeightsWrong : ChangeSpec := { name := "fnExactBestWeights", fn := fun _ => fun
  | [d1, d2, d3, d4] => { results := [.lit (.bool false)], args := [d1, d2, d3, d4] }
  | _ => none }
def FnExactBestWeightsWrongFalsely : Prop := fnExactBestWeightsRow.holds Try.pinned (OpenSpec.ofChange fnExactBestWeightsWrong)

/-- 'laws.FnExactValidDesk': WHATEVER THE INPUT: true; the input reads as it did. -/
def fnExactValidDeskSpec : ChangeSpec := { name := "fnExactValidDesk", fn := fun _ => fun
  | [d] => { results := [.lit (.bool true)], args := [d] }
  | _ => none }
def fnExactValidDeskRow : OpenClaim := { program := "ytlpbflmgkopklaa", sum := "04c1a8ffabee5ff789a4bcfc91fe41e9572778cf9d8515f1b2d25bd8a6873e2c", func := "loop.example/g01130/laws.FnExactValidDesk", spec := "fnExactValidDesk", unfollowed := true, recurses := true, apart := false }
def FnExactValidDeskSaid : Prop := fnExactValidDeskRow.holds Try.pinned (OpenSpec.ofChange fnExactValidDeskSpec)

/-- ITS FALSE NEIGHBOUR: 'it returns false'. Refute it at one input. -/
def fnExactValidDeskWrong : ChangeSpec := { name := "fnExactValidDesk", fn := fun _ => fun
  | [d] => { results := [.lit (.bool false)], args := [d] }
  | _ => none }
def FnExactValidDeskWrongFalsely : Prop := fnExactValidDeskRow.holds Try.pinned (OpenSpec.ofChange fnExactValidDeskWrong)

/-- 'laws.FnExactSystemReport': WHATEVER THE INPUT: true; the input reads as it did. -/
def fnExactSystemReportSpec : ChangeSpec := { name := "fnExactSystemReport", fn := fun _ => fun
  | [d] => { results := [.lit (.bool true)], args := [d] }
  | _ => none }
def fnExactSystemReportRow : OpenClaim := { program := "ytlpbflmgkopklaa", sum := "04c1a8ffabee5ff789a4bcfc91fe41e9572778cf9d8515f1b2d25bd8a6873e2c", func := "loop.example/g01130/laws.FnExactSystemReport", spec := "fnExactSystemReport", unfollowed := true, recurses := true, apart := false }
def FnExactSystemReportSaid : Prop := fnExactSystemReportRow.holds Try.pinned (OpenSpec.ofChange fnExactSystemReportSpec)

/-- ITS FALSE NEIGHBOUR: 'it returns false'. Refute it at one input. -/
def fnExactSystemReportWrong : ChangeSpec := { name := "fnExactSystemReport", fn := fun _ => fun
  | [d] => { results := [.lit (.bool false)], args := [d] }
  | _ => none }
def FnExactSystemReportWrongFalsely : Prop := fnExactSystemReportRow.holds Try.pinned (OpenSpec.ofChange fnExactSystemReportWrong)

/- THE SECOND FORM. 'bulk': how many values and letters a reading holds, each counted each time it is reached (what is shared counts as often as it is met; a slice's spare places count too). A statement '..UptoSaid' is the law's where the arguments, and the package variables that the reading takes, are together of bulk at most 1048576: NARROWER than '..Said'. Prove '..Said' where nothing that the law and all that it calls make is longer than what came in: it says more and counts as full. Else prove '..UptoSaid'. A law counts once. -/
mutual
def uptoBulk {H : Type} : DataW H → Nat
  | .lit (.string bytes) => bytes.length + 1
  | .lit _ => 1
  | .nil => 1
  | .ptr d => uptoBulk d + 1
  | .slice elems spare => uptoBulkAll elems + uptoBulkAll spare + 1
  | .agg parts => uptoBulkAll parts + 1
  | .iface _ d => uptoBulk d + 1
  | .map entries => uptoBulkEntries entries + 1
  | .held _ => 1
def uptoBulkAll {H : Type} : List (DataW H) → Nat
  | [] => 0
  | d :: r => uptoBulk d + uptoBulkAll r
def uptoBulkEntries {H : Type} : List (Lit × DataW H) → Nat
  | [] => 0
  | x :: r => uptoBulkEntry x + uptoBulkEntries r
def uptoBulkEntry {H : Type} : Lit × DataW H → Nat
  | (.string bytes, d) => bytes.length + uptoBulk d + 1
  | (_, d) => uptoBulk d + 1
 end
def uptoSmall : (H : Type) → List (DataW H) → Bool := fun _ ds => decide (uptoBulkAll ds ≤ 1048576)
def OpenSpec.upto (s : _root_.Go.ChangeSpec) : _root_.Go.OpenSpec := { _root_.Go.OpenSpec.ofChange s with cond := some uptoSmall }

/-- 'laws.FnExactBestPair', WHERE WHAT IT READS IS OF BULK AT MOST 1048576: true; the input reads as it did. -/
def fnExactBestPairUptoRow : OpenClaim := { program := "ytlpbflmgkopklaa", sum := "04c1a8ffabee5ff789a4bcfc91fe41e9572778cf9d8515f1b2d25bd8a6873e2c", func := "loop.example/g01130/laws.FnExactBestPair", spec := "fnExactBestPair", unfollowed := true, recurses := true, apart := false, narrowed := true }
def FnExactBestPairUptoSaid : Prop := fnExactBestPairUptoRow.holds Try.pinned (OpenSpec.upto fnExactBestPairSpec)

/-- 'laws.FnLeastModulus', WHERE WHAT IT READS IS OF BULK AT MOST 1048576: true; the input reads as it did. -/
def fnLeastModulusUptoRow : OpenClaim := { program := "ytlpbflmgkopklaa", sum := "04c1a8ffabee5ff789a4bcfc91fe41e9572778cf9d8515f1b2d25bd8a6873e2c", func := "loop.example/g01130/laws.FnLeastModulus", spec := "fnLeastModulus", unfollowed := true, recurses := true, apart := false, narrowed := true }
def FnLeastModulusUptoSaid : Prop := fnLeastModulusUptoRow.holds Try.pinned (OpenSpec.upto fnLeastModulusSpec)

/-- 'laws.FnExactLeastModulus', WHERE WHAT IT READS IS OF BULK AT MOST 1048576: true; the input reads as it did. -/
def fnExactLeastModulusUptoRow : OpenClaim := { program := "ytlpbflmgkopklaa", sum := "04c1a8ffabee5ff789a4bcfc91fe41e9572778cf9d8515f1b2d25bd8a6873e2c", func := "loop.example/g01130/laws.FnExactLeastModulus", spec := "fnExactLeastModulus", unfollowed := true, recurses := true, apart := false, narrowed := true }
def FnExactLeastModulusUptoSaid : Prop := fnExactLeastModulusUptoRow.holds Try.pinned (OpenSpec.upto fnExactLeastModulusSpec)

/-- 'laws.FnExactCountBest', WHERE WHAT IT READS IS OF BULK AT MOST 1048576: true; the input reads as it did. -/
def fnExactCountBestUptoRow : OpenClaim := { program := "ytlpbflmgkopklaa", sum := "04c1a8ffabee5ff789a4bcfc91fe41e9572778cf9d8515f1b2d25bd8a6873e2c", func := "loop.example/g01130/laws.FnExactCountBest", spec := "fnExactCountBest", unfollowed := true, recurses := true, apart := false, narrowed := true }
def FnExactCountBestUptoSaid : Prop := fnExactCountBestUptoRow.holds Try.pinned (OpenSpec.upto fnExactCountBestSpec)

/-- 'laws.FnExactBestWeights', WHERE WHAT IT READS IS OF BULK AT MOST 1048576: true; the input reads as it did. -/
def fnExactBestWeightsUptoRow : OpenClaim := { program := "ytlpbflmgkopklaa", sum := "04c1a8ffabee5ff789a4bcfc91fe41e9572778cf9d8515f1b2d25bd8a6873e2c", func := "loop.example/g01130/laws.FnExactBestWeights", spec := "fnExactBestWeights", unfollowed := true, recurses := true, apart := false, narrowed := true }
def FnExactBestWeightsUptoSaid : Prop := fnExactBestWeightsUptoRow.holds Try.pinned (OpenSpec.upto fnExactBestWeightsSpec)

/-- 'laws.FnExactValidDesk', WHERE WHAT IT READS IS OF BULK AT MOST 1048576: true; the input reads as it did. -/
def fnExactValidDeskUptoRow : OpenClaim := { program := "ytlpbflmgkopklaa", sum := "04c1a8ffabee5ff789a4bcfc91fe41e9572778cf9d8515f1b2d25bd8a6873e2c", func := "loop.example/g01130/laws.FnExactValidDesk", spec := "fnExactValidDesk", unfollowed := true, recurses := true, apart := false, narrowed := true }
def FnExactValidDeskUptoSaid : Prop := fnExactValidDeskUptoRow.holds Try.pinned (OpenSpec.upto fnExactValidDeskSpec)

/-- 'laws.FnExactSystemReport', WHERE WHAT IT READS IS OF BULK AT MOST 1048576: true; the input reads as it did. -/
def fnExactSystemReportUptoRow : OpenClaim := { program := "ytlpbflmgkopklaa", sum := "04c1a8ffabee5ff789a4bcfc91fe41e9572778cf9d8515f1b2d25bd8a6873e2c", func := "loop.example/g01130/laws.FnExactSystemReport", spec := "fnExactSystemReport", unfollowed := true, recurses := true, apart := false, narrowed := true }
def FnExactSystemReportUptoSaid : Prop := fnExactSystemReportUptoRow.holds Try.pinned (OpenSpec.upto fnExactSystemReportSpec)

end Rows
end Go.Proofs.Ytlpbflmgkopklaa
