/-
  DERIVED. GIVEN WITH THE SEED: THE CARDS: each row of YtkiolfmdofldbaaDoorRows.lean that lists a variable, with what it lists TIED to the program's text (the seventh form; the later family's looks); each row that meets fmt, with fmt's text TOLD by the authors' own Lean function (tested against real Go, not proved from fmt's source: count such statements apart). THE CARD IS WHAT COUNTS. Prove the row's statement (the work); the ties are given (YtkiolfmdofldbaaDoorTie.lean); close each card by the builder's one call (the guide's Derived/Test/ToyasCard.lean, 'card_holds'). Laid BY PROGRAM, IN A SANDBOX (cutbox-door.mjs). By AI agents, Wed Nov 11 2026. No macro, syntax, notation, axiom, sorry.
-/
import Derived.Test.YtkiolfmdofldbaaDoorRows
import GoSem.ClaimSeven
namespace Go.Proofs.YtkiolfmdofldbaaDoor
namespace Rows

/-- THE TIED CARD OF 'laws.FnExactJournalOf'. -/
def fnExactJournalOfCard : Claim7 := { stood := { row := fnExactJournalOfRow, standIns := [], harness := (true, "bee80896be40fb6f77ef7032af81d565876b881e8ecf4e7f7a7d22d7559253ea"), looks := false }, kinds := [], alts := [], laidByText := true, laidKinds := [.data, .data, .data], laidTests := true, laidLooks := .later }
def FnExactJournalOfCardSaid : Prop := Claim7.holds Tryd.pinned (.plain (OpenSpec.ofChange fnExactJournalOfSpec)) fnExactJournalOfCard

/-- THE TIED CARD OF 'laws.FnExactRecoverJournal'. -/
def fnExactRecoverJournalCard : Claim7 := { stood := { row := fnExactRecoverJournalRow, standIns := [], harness := (true, "bee80896be40fb6f77ef7032af81d565876b881e8ecf4e7f7a7d22d7559253ea"), looks := false }, kinds := [], alts := [], laidByText := true, laidKinds := [.data, .data, .data], laidTests := true, laidLooks := .later }
def FnExactRecoverJournalCardSaid : Prop := Claim7.holds Tryd.pinned (.plain (OpenSpec.ofChange fnExactRecoverJournalSpec)) fnExactRecoverJournalCard

/-- THE TIED CARD OF 'laws.FnJournal'. -/
def fnJournalCard : Claim7 := { stood := { row := fnJournalRow, standIns := [], harness := (true, "bee80896be40fb6f77ef7032af81d565876b881e8ecf4e7f7a7d22d7559253ea"), looks := false }, kinds := [], alts := [], laidByText := true, laidKinds := [.data, .data, .data], laidTests := true, laidLooks := .later }
def FnJournalCardSaid : Prop := Claim7.holds Tryd.pinned (.plain (OpenSpec.ofChange fnJournalSpec)) fnJournalCard

/-- THE SECOND FORM's CARD OF 'laws.FnExactJournalOf'. -/
def fnExactJournalOfUptoCard : Claim7 := { stood := { row := fnExactJournalOfUptoRow, standIns := [], harness := (true, "bee80896be40fb6f77ef7032af81d565876b881e8ecf4e7f7a7d22d7559253ea"), looks := false }, kinds := [], alts := [], laidByText := true, laidKinds := [.data, .data, .data], laidTests := true, laidLooks := .later }
def FnExactJournalOfUptoCardSaid : Prop := Claim7.holds Tryd.pinned (.plain (OpenSpec.upto fnExactJournalOfSpec)) fnExactJournalOfUptoCard

/-- THE SECOND FORM's CARD OF 'laws.FnExactRecoverJournal'. -/
def fnExactRecoverJournalUptoCard : Claim7 := { stood := { row := fnExactRecoverJournalUptoRow, standIns := [], harness := (true, "bee80896be40fb6f77ef7032af81d565876b881e8ecf4e7f7a7d22d7559253ea"), looks := false }, kinds := [], alts := [], laidByText := true, laidKinds := [.data, .data, .data], laidTests := true, laidLooks := .later }
def FnExactRecoverJournalUptoCardSaid : Prop := Claim7.holds Tryd.pinned (.plain (OpenSpec.upto fnExactRecoverJournalSpec)) fnExactRecoverJournalUptoCard

/-- THE SECOND FORM's CARD OF 'laws.FnJournal'. -/
def fnJournalUptoCard : Claim7 := { stood := { row := fnJournalUptoRow, standIns := [], harness := (true, "bee80896be40fb6f77ef7032af81d565876b881e8ecf4e7f7a7d22d7559253ea"), looks := false }, kinds := [], alts := [], laidByText := true, laidKinds := [.data, .data, .data], laidTests := true, laidLooks := .later }
def FnJournalUptoCardSaid : Prop := Claim7.holds Tryd.pinned (.plain (OpenSpec.upto fnJournalSpec)) fnJournalUptoCard
end Rows
end Go.Proofs.YtkiolfmdofldbaaDoor
