/-
  No cell of these rows narrows 'for every input' (looked for: loops, veiled, ifaces, maps, wideKeys, modest, calm, conditions, laid).
  DERIVED. THE GIVEN ROWS OF THIS SEAT. 10 by the template 'for every input the law returns true; each argument reads behind the call as it read before'; 0 by the template 'total and deterministic' (their statements: YtdekplfjnkbidaaTotals.lean).
  GIVEN WITH THE SEED: the statements are not yours to turn. If you find one false, say at which input.
  Laid BY PROGRAM, IN A SANDBOX (cutbox-rows.mjs): the forced cells as the released guide's own fill.sh prints them over the translation 1ec81e76d039ef10… (all of the seat's roots in one cut). By AI agents, Wed Nov 11 2026. No macro, syntax, notation, axiom, sorry.
-/
import Derived.Test.YtdekplfjnkbidaaChecked
import GoSem.Claim
import GoSem.ClaimJoined
import GoSem.ClaimMapViews
import Derived.JoinedTies
import Derived.KernelRfl
namespace Go.Proofs.Ytdekplfjnkbidaa
/- THE CELL 'sum', in the pinned program and in every row, IS THE sha256 OF THE DUMP (.gsa) THAT YtdekplfjnkbidaaProg.lean LOADS. Nothing in Lean hashes anything: it is a label: what it is worth is what the hold of that sum in a sandbox is worth. -/
noncomputable def Try.pinned : Pinned := { name := "ytdekplfjnkbidaa", sum := "1ec81e76d039ef100e94384dbc49f678e4024632154e709e61080121d4c5a3a5", checked := Try.checked }
namespace Rows
def none {H : Type} : Left H := { results := [], args := [] }

/-- 'laws.FnExactValidRegistry': WHATEVER THE INPUT: true; the input reads as it did. -/
def fnExactValidRegistrySpec : ChangeSpec := { name := "fnExactValidRegistry", fn := fun _ => fun
  | [d] => { results := [.lit (.bool true)], args := [d] }
  | _ => none }
def fnExactValidRegistryRow : OpenClaim := { program := "ytdekplfjnkbidaa", sum := "1ec81e76d039ef100e94384dbc49f678e4024632154e709e61080121d4c5a3a5", func := "loop.example/g01130/laws.FnExactValidRegistry", spec := "fnExactValidRegistry", inPlace := ["internal/bytealg.IndexByteString"], unfollowed := true, recurses := true, apart := false }
def FnExactValidRegistrySaid : Prop := fnExactValidRegistryRow.holds Try.pinned (OpenSpec.ofChange fnExactValidRegistrySpec)

/-- ITS FALSE NEIGHBOUR: 'it returns false'. Refute it at one input. -/
def fnExactValidRegistryWrong : ChangeSpec := { name := "fnExactValidRegistry", fn := fun _ => fun
  | [d] => { results := [.lit (.bool false)], args := [d] }
  | _ => none }
def FnExactValidRegistryWrongFalsely : Prop := fnExactValidRegistryRow.holds Try.pinned (OpenSpec.ofChange fnExactValidRegistryWrong)

/-- 'laws.FnExactRadiusOf': WHATEVER THE INPUT: true; the input reads as it did. -/
def fnExactRadiusOfSpec : ChangeSpec := { name := "fnExactRadiusOf", fn := fun _ => fun
  | [d] => { results := [.lit (.bool true)], args := [d] }
  | _ => none }
def fnExactRadiusOfRow : OpenClaim := { program := "ytdekplfjnkbidaa", sum := "1ec81e76d039ef100e94384dbc49f678e4024632154e709e61080121d4c5a3a5", func := "loop.example/g01130/laws.FnExactRadiusOf", spec := "fnExactRadiusOf", inPlace := ["internal/bytealg.IndexByteString"], unfollowed := true, recurses := true, apart := false }
def FnExactRadiusOfSaid : Prop := fnExactRadiusOfRow.holds Try.pinned (OpenSpec.ofChange fnExactRadiusOfSpec)

/-- ITS FALSE NEIGHBOUR: 'it returns false'. Refute it at one input. -/
def fnExactRadiusOfWrong : ChangeSpec := { name := "fnExactRadiusOf", fn := fun _ => fun
  | [d] => { results := [.lit (.bool false)], args := [d] }
  | _ => none }
def FnExactRadiusOfWrongFalsely : Prop := fnExactRadiusOfRow.holds Try.pinned (OpenSpec.ofChange fnExactRadiusOfWrong)

/-- 'laws.FnExactLeastApart': WHATEVER THE INPUT: true; the input reads as it did. -/
def fnExactLeastApartSpec : ChangeSpec := { name := "fnExactLeastApart", fn := fun _ => fun
  | [d] => { results := [.lit (.bool true)], args := [d] }
  | _ => none }
def fnExactLeastApartRow : OpenClaim := { program := "ytdekplfjnkbidaa", sum := "1ec81e76d039ef100e94384dbc49f678e4024632154e709e61080121d4c5a3a5", func := "loop.example/g01130/laws.FnExactLeastApart", spec := "fnExactLeastApart", inPlace := ["internal/bytealg.IndexByteString"], unfollowed := true, recurses := true, apart := false }
def FnExactLeastApartSaid : Prop := fnExactLeastApartRow.holds Try.pinned (OpenSpec.ofChange fnExactLeastApartSpec)

/-- ITS FALSE NEIGHBOUR: 'it returns false'. Refute it at one input. -/
def fnExactLeastApartWrong : ChangeSpec := { name := "fnExactLeastApart", fn := fun _ => fun
  | [d] => { results := [.lit (.bool false)], args := [d] }
  | _ => none }
def FnExactLeastApartWrongFalsely : Prop := fnExactLeastApartRow.holds Try.pinned (OpenSpec.ofChange fnExactLeastApartWrong)

/-- 'laws.FnExactStatusOf': WHATEVER THE INPUT: true; the input reads as it did. -/
def fnExactStatusOfSpec : ChangeSpec := { name := "fnExactStatusOf", fn := fun _ => fun
  | [d1, d2] => { results := [.lit (.bool true)], args := [d1, d2] }
  | _ => none }
def fnExactStatusOfRow : OpenClaim := { program := "ytdekplfjnkbidaa", sum := "1ec81e76d039ef100e94384dbc49f678e4024632154e709e61080121d4c5a3a5", func := "loop.example/g01130/laws.FnExactStatusOf", spec := "fnExactStatusOf", inPlace := ["internal/bytealg.IndexByteString"], unfollowed := true, recurses := true, apart := false }
def FnExactStatusOfSaid : Prop := fnExactStatusOfRow.holds Try.pinned (OpenSpec.ofChange fnExactStatusOfSpec)

/-- ITS FALSE NEIGHBOUR: 'it returns false'. Refute it at one input. -/
def fnExactStatusOfWrong : ChangeSpec := { name := "fnExactStatusOf", fn := fun _ => fun
  | [d1, d2] => { results := [.lit (.bool false)], args := [d1, d2] }
  | _ => none }
def FnExactStatusOfWrongFalsely : Prop := fnExactStatusOfRow.holds Try.pinned (OpenSpec.ofChange fnExactStatusOfWrong)

/-- 'laws.FnExactNewRegistry': WHATEVER THE INPUT: true; the input reads as it did. -/
def fnExactNewRegistrySpec : ChangeSpec := { name := "fnExactNewRegistry", fn := fun _ => fun
  | [d1, d2] => { results := [.lit (.bool true)], args := [d1, d2] }
  | _ => none }
def fnExactNewRegistryRow : OpenClaim := { program := "ytdekplfjnkbidaa", sum := "1ec81e76d039ef100e94384dbc49f678e4024632154e709e61080121d4c5a3a5", func := "loop.example/g01130/laws.FnExactNewRegistry", spec := "fnExactNewRegistry", inPlace := ["internal/bytealg.IndexByteString"], unfollowed := true, recurses := true, apart := false }
def FnExactNewRegistrySaid : Prop := fnExactNewRegistryRow.holds Try.pinned (OpenSpec.ofChange fnExactNewRegistrySpec)

/-- ITS FALSE NEIGHBOUR: 'it returns false'. Refute it at one input. -/
def fnExactNewRegistryWrong : ChangeSpec := { name := "fnExactNewRegistry", fn := fun _ => fun
  | [d1, d2] => { results := [.lit (.bool false)], args := [d1, d2] }
  | _ => none }
def FnExactNewRegistryWrongFalsely : Prop := fnExactNewRegistryRow.holds Try.pinned (OpenSpec.ofChange fnExactNewRegistryWrong)

/-- 'laws.FnExactIsFull': WHATEVER THE INPUT: true; the input reads as it did. -/
def fnExactIsFullSpec : ChangeSpec := { name := "fnExactIsFull", fn := fun _ => fun
  | [d] => { results := [.lit (.bool true)], args := [d] }
  | _ => none }
def fnExactIsFullRow : OpenClaim := { program := "ytdekplfjnkbidaa", sum := "1ec81e76d039ef100e94384dbc49f678e4024632154e709e61080121d4c5a3a5", func := "loop.example/g01130/laws.FnExactIsFull", spec := "fnExactIsFull", inPlace := ["internal/bytealg.IndexByteString"], unfollowed := true, recurses := true, apart := false }
def FnExactIsFullSaid : Prop := fnExactIsFullRow.holds Try.pinned (OpenSpec.ofChange fnExactIsFullSpec)

/-- ITS FALSE NEIGHBOUR: 'it returns false'. Refute it at one input. -/
def fnExactIsFullWrong : ChangeSpec := { name := "fnExactIsFull", fn := fun _ => fun
  | [d] => { results := [.lit (.bool false)], args := [d] }
  | _ => none }
def FnExactIsFullWrongFalsely : Prop := fnExactIsFullRow.holds Try.pinned (OpenSpec.ofChange fnExactIsFullWrong)

/-- 'laws.FnExactIssueGiven': WHATEVER THE INPUT: true; the input reads as it did. -/
def fnExactIssueGivenSpec : ChangeSpec := { name := "fnExactIssueGiven", fn := fun _ => fun
  | [d1, d2] => { results := [.lit (.bool true)], args := [d1, d2] }
  | _ => none }
def fnExactIssueGivenRow : OpenClaim := { program := "ytdekplfjnkbidaa", sum := "1ec81e76d039ef100e94384dbc49f678e4024632154e709e61080121d4c5a3a5", func := "loop.example/g01130/laws.FnExactIssueGiven", spec := "fnExactIssueGiven", inPlace := ["internal/bytealg.IndexByteString"], unfollowed := true, recurses := true, apart := false }
def FnExactIssueGivenSaid : Prop := fnExactIssueGivenRow.holds Try.pinned (OpenSpec.ofChange fnExactIssueGivenSpec)

/-- ITS FALSE NEIGHBOUR: 'it returns false'. Refute it at one input. -/
def fnExactIssueGivenWrong : ChangeSpec := { name := "fnExactIssueGiven", fn := fun _ => fun
  | [d1, d2] => { results := [.lit (.bool false)], args := [d1, d2] }
  | _ => none }
def FnExactIssueGivenWrongFalsely : Prop := fnExactIssueGivenRow.holds Try.pinned (OpenSpec.ofChange fnExactIssueGivenWrong)

/-- 'laws.FnExactIssueMany': WHATEVER THE INPUT: true; the input reads as it did. -/
def fnExactIssueManySpec : ChangeSpec := { name := "fnExactIssueMany", fn := fun _ => fun
  | [d1, d2] => { results := [.lit (.bool true)], args := [d1, d2] }
  | _ => none }
def fnExactIssueManyRow : OpenClaim := { program := "ytdekplfjnkbidaa", sum := "1ec81e76d039ef100e94384dbc49f678e4024632154e709e61080121d4c5a3a5", func := "loop.example/g01130/laws.FnExactIssueMany", spec := "fnExactIssueMany", inPlace := ["internal/bytealg.IndexByteString"], unfollowed := true, recurses := true, apart := false }
def FnExactIssueManySaid : Prop := fnExactIssueManyRow.holds Try.pinned (OpenSpec.ofChange fnExactIssueManySpec)

/-- ITS FALSE NEIGHBOUR: 'it returns false'. Refute it at one input. -/
def fnExactIssueManyWrong : ChangeSpec := { name := "fnExactIssueMany", fn := fun _ => fun
  | [d1, d2] => { results := [.lit (.bool false)], args := [d1, d2] }
  | _ => none }
def FnExactIssueManyWrongFalsely : Prop := fnExactIssueManyRow.holds Try.pinned (OpenSpec.ofChange fnExactIssueManyWrong)

/-- 'laws.FnExactIssueWord': WHATEVER THE INPUT: true; the input reads as it did. -/
def fnExactIssueWordSpec : ChangeSpec := { name := "fnExactIssueWord", fn := fun _ => fun
  | [d] => { results := [.lit (.bool true)], args := [d] }
  | _ => none }
def fnExactIssueWordRow : OpenClaim := { program := "ytdekplfjnkbidaa", sum := "1ec81e76d039ef100e94384dbc49f678e4024632154e709e61080121d4c5a3a5", func := "loop.example/g01130/laws.FnExactIssueWord", spec := "fnExactIssueWord", inPlace := ["internal/bytealg.IndexByteString"], unfollowed := true, recurses := true, apart := false }
def FnExactIssueWordSaid : Prop := fnExactIssueWordRow.holds Try.pinned (OpenSpec.ofChange fnExactIssueWordSpec)

/-- ITS FALSE NEIGHBOUR: 'it returns false'. Refute it at one input. -/
def fnExactIssueWordWrong : ChangeSpec := { name := "fnExactIssueWord", fn := fun _ => fun
  | [d] => { results := [.lit (.bool false)], args := [d] }
  | _ => none }
def FnExactIssueWordWrongFalsely : Prop := fnExactIssueWordRow.holds Try.pinned (OpenSpec.ofChange fnExactIssueWordWrong)

/-- 'laws.FnExactFindWord': WHATEVER THE INPUT: true; the input reads as it did. -/
def fnExactFindWordSpec : ChangeSpec := { name := "fnExactFindWord", fn := fun _ => fun
  | [d1, d2] => { results := [.lit (.bool true)], args := [d1, d2] }
  | _ => none }
def fnExactFindWordRow : OpenClaim := { program := "ytdekplfjnkbidaa", sum := "1ec81e76d039ef100e94384dbc49f678e4024632154e709e61080121d4c5a3a5", func := "loop.example/g01130/laws.FnExactFindWord", spec := "fnExactFindWord", inPlace := ["internal/bytealg.IndexByteString"], unfollowed := true, recurses := true, apart := false }
def FnExactFindWordSaid : Prop := fnExactFindWordRow.holds Try.pinned (OpenSpec.ofChange fnExactFindWordSpec)

/-- ITS FALSE NEIGHBOUR: 'it returns false'. Refute it at one input. -/
def fnExactFindWordWrong : ChangeSpec := { name := "fnExactFindWord", fn := fun _ => fun
  | [d1, d2] => { results := [.lit (.bool false)], args := [d1, d2] }
  | _ => none }
def FnExactFindWordWrongFalsely : Prop := fnExactFindWordRow.holds Try.pinned (OpenSpec.ofChange fnExactFindWordWrong)

/- THE SECOND FORM. 'bulk': how many values and letters a reading holds, each counted each time it is reached (what is shared counts as often as it is met; a slice's spare places count too). A statement '..UptoSaid' is the law's where the arguments, and the package variables that the reading takes, are together of bulk at most 1048576: NARROWER than '..Said'. Prove '..Said' where nothing that the law and all that it calls make is longer than what came in: it says more and counts as full. Else prove '..UptoSaid'. A law counts once. -/
mutual
def uptoBulk {H : Type} : DataW H → Nat
  | .lit (.string bytes) => bytes.length + 1
  | .lit _ => 1
  | .nil => 1
  | .ptr d => uptoBulk d + 1
  | .slice elems spare => uptoBulkAll elems + uptoBulkAll spare + 1
  | .agg parts => uptoBulkAll parts + 1
  | .iface _ d => uptoBulk d + 1
  | .map entries => uptoBulkEntries entries + 1
  | .held _ => 1
def uptoBulkAll {H : Type} : List (DataW H) → Nat
  | [] => 0
  | d :: r => uptoBulk d + uptoBulkAll r
def uptoBulkEntries {H : Type} : List (Lit × DataW H) → Nat
  | [] => 0
  | x :: r => uptoBulkEntry x + uptoBulkEntries r
def uptoBulkEntry {H : Type} : Lit × DataW H → Nat
  | (.string bytes, d) => bytes.length + uptoBulk d + 1
  | (_, d) => uptoBulk d + 1
 end
def uptoSmall : (H : Type) → List (DataW H) → Bool := fun _ ds => decide (uptoBulkAll ds ≤ 1048576)
def OpenSpec.upto (s : _root_.Go.ChangeSpec) : _root_.Go.OpenSpec := { _root_.Go.OpenSpec.ofChange s with cond := some uptoSmall }

/-- 'laws.FnExactValidRegistry', WHERE WHAT IT READS IS OF BULK AT MOST 1048576: true; the input reads as it did. -/
def fnExactValidRegistryUptoRow : OpenClaim := { program := "ytdekplfjnkbidaa", sum := "1ec81e76d039ef100e94384dbc49f678e4024632154e709e61080121d4c5a3a5", func := "loop.example/g01130/laws.FnExactValidRegistry", spec := "fnExactValidRegistry", inPlace := ["internal/bytealg.IndexByteString"], unfollowed := true, recurses := true, apart := false, narrowed := true }
def FnExactValidRegistryUptoSaid : Prop := fnExactValidRegistryUptoRow.holds Try.pinned (OpenSpec.upto fnExactValidRegistrySpec)

/-- 'laws.FnExactRadiusOf', WHERE WHAT IT READS IS OF BULK AT MOST 1048576: true; the input reads as it did. -/
def fnExactRadiusOfUptoRow : OpenClaim := { program := "ytdekplfjnkbidaa", sum := "1ec81e76d039ef100e94384dbc49f678e4024632154e709e61080121d4c5a3a5", func := "loop.example/g01130/laws.FnExactRadiusOf", spec := "fnExactRadiusOf", inPlace := ["internal/bytealg.IndexByteString"], unfollowed := true, recurses := true, apart := false, narrowed := true }
def FnExactRadiusOfUptoSaid : Prop := fnExactRadiusOfUptoRow.holds Try.pinned (OpenSpec.upto fnExactRadiusOfSpec)

/-- 'laws.FnExactLeastApart', WHERE WHAT IT READS IS OF BULK AT MOST 1048576: true; the input reads as it did. -/
def fnExactLeastApartUptoRow : OpenClaim := { program := "ytdekplfjnkbidaa", sum := "1ec81e76d039ef100e94384dbc49f678e4024632154e709e61080121d4c5a3a5", func := "loop.example/g01130/laws.FnExactLeastApart", spec := "fnExactLeastApart", inPlace := ["internal/bytealg.IndexByteString"], unfollowed := true, recurses := true, apart := false, narrowed := true }
def FnExactLeastApartUptoSaid : Prop := fnExactLeastApartUptoRow.holds Try.pinned (OpenSpec.upto fnExactLeastApartSpec)

/-- 'laws.FnExactStatusOf', WHERE WHAT IT READS IS OF BULK AT MOST 1048576: true; the input reads as it did. -/
def fnExactStatusOfUptoRow : OpenClaim := { program := "ytdekplfjnkbidaa", sum := "1ec81e76d039ef100e94384dbc49f678e4024632154e709e61080121d4c5a3a5", func := "loop.example/g01130/laws.FnExactStatusOf", spec := "fnExactStatusOf", inPlace := ["internal/bytealg.IndexByteString"], unfollowed := true, recurses := true, apart := false, narrowed := true }
def FnExactStatusOfUptoSaid : Prop := fnExactStatusOfUptoRow.holds Try.pinned (OpenSpec.upto fnExactStatusOfSpec)

/-- 'laws.FnExactNewRegistry', WHERE WHAT IT READS IS OF BULK AT MOST 1048576: true; the input reads as it did. -/
def fnExactNewRegistryUptoRow : OpenClaim := { program := "ytdekplfjnkbidaa", sum := "1ec81e76d039ef100e94384dbc49f678e4024632154e709e61080121d4c5a3a5", func := "loop.example/g01130/laws.FnExactNewRegistry", spec := "fnExactNewRegistry", inPlace := ["internal/bytealg.IndexByteString"], unfollowed := true, recurses := true, apart := false, narrowed := true }
def FnExactNewRegistryUptoSaid : Prop := fnExactNewRegistryUptoRow.holds Try.pinned (OpenSpec.upto fnExactNewRegistrySpec)

/-- 'laws.FnExactIsFull', WHERE WHAT IT READS IS OF BULK AT MOST 1048576: true; the input reads as it did. -/
def fnExactIsFullUptoRow : OpenClaim := { program := "ytdekplfjnkbidaa", sum := "1ec81e76d039ef100e94384dbc49f678e4024632154e709e61080121d4c5a3a5", func := "loop.example/g01130/laws.FnExactIsFull", spec := "fnExactIsFull", inPlace := ["internal/bytealg.IndexByteString"], unfollowed := true, recurses := true, apart := false, narrowed := true }
def FnExactIsFullUptoSaid : Prop := fnExactIsFullUptoRow.holds Try.pinned (OpenSpec.upto fnExactIsFullSpec)

/-- 'laws.FnExactIssueGiven', WHERE WHAT IT READS IS OF BULK AT MOST 1048576: true; the input reads as it did. -/
def fnExactIssueGivenUptoRow : OpenClaim := { program := "ytdekplfjnkbidaa", sum := "1ec81e76d039ef100e94384dbc49f678e4024632154e709e61080121d4c5a3a5", func := "loop.example/g01130/laws.FnExactIssueGiven", spec := "fnExactIssueGiven", inPlace := ["internal/bytealg.IndexByteString"], unfollowed := true, recurses := true, apart := false, narrowed := true }
def FnExactIssueGivenUptoSaid : Prop := fnExactIssueGivenUptoRow.holds Try.pinned (OpenSpec.upto fnExactIssueGivenSpec)

/-- 'laws.FnExactIssueMany', WHERE WHAT IT READS IS OF BULK AT MOST 1048576: true; the input reads as it did. -/
def fnExactIssueManyUptoRow : OpenClaim := { program := "ytdekplfjnkbidaa", sum := "1ec81e76d039ef100e94384dbc49f678e4024632154e709e61080121d4c5a3a5", func := "loop.example/g01130/laws.FnExactIssueMany", spec := "fnExactIssueMany", inPlace := ["internal/bytealg.IndexByteString"], unfollowed := true, recurses := true, apart := false, narrowed := true }
def FnExactIssueManyUptoSaid : Prop := fnExactIssueManyUptoRow.holds Try.pinned (OpenSpec.upto fnExactIssueManySpec)

/-- 'laws.FnExactIssueWord', WHERE WHAT IT READS IS OF BULK AT MOST 1048576: true; the input reads as it did. -/
def fnExactIssueWordUptoRow : OpenClaim := { program := "ytdekplfjnkbidaa", sum := "1ec81e76d039ef100e94384dbc49f678e4024632154e709e61080121d4c5a3a5", func := "loop.example/g01130/laws.FnExactIssueWord", spec := "fnExactIssueWord", inPlace := ["internal/bytealg.IndexByteString"], unfollowed := true, recurses := true, apart := false, narrowed := true }
def FnExactIssueWordUptoSaid : Prop := fnExactIssueWordUptoRow.holds Try.pinned (OpenSpec.upto fnExactIssueWordSpec)

/-- 'laws.FnExactFindWord', WHERE WHAT IT READS IS OF BULK AT MOST 1048576: true; the input reads as it did. -/
def fnExactFindWordUptoRow : OpenClaim := { program := "ytdekplfjnkbidaa", sum := "1ec81e76d039ef100e94384dbc49f678e4024632154e709e61080121d4c5a3a5", func := "loop.example/g01130/laws.FnExactFindWord", spec := "fnExactFindWord", inPlace := ["internal/bytealg.IndexByteString"], unfollowed := true, recurses := true, apart := false, narrowed := true }
def FnExactFindWordUptoSaid : Prop := fnExactFindWordUptoRow.holds Try.pinned (OpenSpec.upto fnExactFindWordSpec)

end Rows
end Go.Proofs.Ytdekplfjnkbidaa
